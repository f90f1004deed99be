/- Texts put together: PxSev, PxAtom, PxSigned, PxEnds, PxBlock, PxBranch, MapIs, MapStr, PxStmt, PxStmt2, PxStm, PxText, PxFunc, NdDeep, NdLong, NdLong2, NdCheck, NdCheck2, ToSil, Tag2, ToIt. -/
import Derived.Test.YtcldcigopkfmmaaGreatDoorTrD2
import Derived.Maps.Own
import Derived.Maps.OwnOps
import Derived.Maps.OwnSet
import Derived.Maps.Views
import Derived.StringKeys
import Derived.Test.YtcldcigopkfmmaaGreatDoorRows
import Derived.IntWalk
import Derived.RangeFuncIn
import Derived.RangeFuncLeaves
import Derived.RangeFuncRecord

/- Trees: the reader: several nodes, between commas. -/
namespace Go.Proofs.YtcldcigopkfmmaaGreatDoor
open Go.RowKit Go.My Go.Nd

theorem nodeEl : Elem Tryz.prog 45 74 5 96 (.agg #[.int .u8 0, .string ⟨#[]⟩, .slice none 0 0, .slice none 0 0, .slice none 0 0]) := Elem.mk' Tryz.underlying45 (by kernel_rfl) rfl (by decide)

/-- What a call that reads nodes does. -/
def GotL (w : World) (rb : Nat) (tv : Value) (xs : List To.T) (inn : Bool) (r : R (List Nd)) (e : Ending) (w' : World) : Prop :=
  Step w w' (some rb) ∧ Rd w' rb tv xs r.rest inn ∧ match r with | .ok l _ => ∃ v, e = .returned v ∧ LR w' TN w.heap.size w'.heap.size v (Ns.of l) | .bad _ => e = .panicked wrongChain

structure SevSt (w : World) (rb : Nat) (tv : Value) (xs : List To.T) (inn : Bool) (n m : Nat) (fin : Tx) (read : List Tx → R Nd) (tot : R (List Nd)) (l : List Nd) (ts : List Tx) (v : Value) (wr : World) : Prop where
  plain : (sevTail fin read ts).map (l ++ ·) = tot
  len : ts.length ≤ n
  many : l.length + ts.length ≤ m
  step : Step w wr (some rb)
  rd : Rd wr rb tv xs ts inn
  list : LR wr TN w.heap.size wr.heap.size v (Ns.of l)
def SevAt (w : World) (rb : Nat) (tv : Value) (xs : List To.T) (inn : Bool) (n m : Nat) (fin : Tx) (read : List Tx → R Nd) (tot : R (List Nd)) (gk : Nat) (v : Value) (wr : World) : Prop :=
  ∃ l ts, gk = ts.length ∧ SevSt w rb tv xs inn n m fin read tot l ts v wr

theorem LR.stepped {w0 w w' : World} {rb hi : Nat} {v : Value} {l : Ns} (h : LR w TN w0.heap.size hi v l) (hs : Step w w' (some rb)) (hrb : rb < w0.heap.size) (hh : hi ≤ w.heap.size) : LR w' TN w0.heap.size hi v l :=
  LR.frame h fun b h1 h2 => hs.kept (by omega) (by omega)
theorem sevTail_bad {α : Type} {fin : Tx} {read : List Tx → R α} (ts : List Tx) (h1 : ts.head? ≠ some fin) (h2 : ts.head? ≠ some [44]) : sevTail fin read ts = .bad ts := by
  cases ts with
  | nil => rfl
  | cons s r => unfold sevTail; simp only; rw [if_neg (by intro e; subst e; exact h1 rfl), if_neg (by intro e; subst e; exact h2 rfl)]
theorem head_form {s : Tx} {ts : List Tx} (h : ts.head? = some s) : ∃ r, ts = s :: r := by
  cases ts with
  | nil => cases h
  | cons a r => simp at h; subst h; exact ⟨r, rfl⟩

/-- A node appended to a list of the call's own. -/
theorem SevSt.more {w : World} {rb : Nat} {tv : Value} {xs : List To.T} {inn : Bool} {n m : Nat} {fin : Tx} {read : List Tx → R Nd} {tot : R (List Nd)} {l : List Nd} {r q : List Tx} {x : Nd} {v v' : Value} {wr w4 w6 : World} (h : SevSt w rb tv xs inn n m fin read tot l ([44] :: r) v wr) (hd : ∀ ts, (read ts).Down ts) (hf : fin ≠ [44])
    (s4 : Step wr w4 (some rb)) (hrd : read r = .ok x q) (h4 : Rd w4 rb tv xs q inn) (hrb : rb < w.heap.size) (hb : Below w.heap.size w4 w6) (hL : LR w6 TN w.heap.size w6.heap.size v' (Ns.of (l ++ [x]))) : SevSt w rb tv xs inn n m fin read tot (l ++ [x]) q v' w6 := by
  have hq := (hd r).lt hrd
  have h1 := h.len
  have h2 := h.many
  rw [List.length_cons] at h1 h2
  have st6 : Step w w6 (some rb) := ⟨hb.os.trans (s4.os.trans h.step.os), hb.tape.trans (s4.tape.trans h.step.tape), hb.output.trans (s4.output.trans h.step.output), Nat.le_trans h.step.size (Nat.le_trans s4.size hb.size), fun k hk hk' => (hb.block k hk).trans ((s4.block k (Nat.lt_of_lt_of_le hk h.step.size) hk').trans (h.step.block k hk hk'))⟩
  refine ⟨?_, by omega, by rw [List.length_append, List.length_singleton]; omega, st6, h4.keep hb.size fun k hk => hb.block k (by omega), hL⟩
  rw [← h.plain, sevTail_comma hd hf, hrd]
  show _ = R.map _ (R.map _ _)
  rw [R.map_map]
  congr 1
  funext a
  simp

set_option maxRecDepth 100000 in
set_option maxHeartbeats 4000000 in
theorem sevn_t {fn : FuncId} {first cap : Array Value} {rb : Nat} {tv : Value} {xs : List To.T} {inn : Bool} {n : Nat} {read : List Tx → R Nd} (hcf : ∀ (wx : World), (callFunc fn (first ++ cap)).run Tryz.prog wx = .ok (.enter fn (first ++ cap)) wx)
    (hread : Reads fn (first ++ cap) rb tv xs inn (fun _ => True) n read) (hd : ∀ ts, (read ts).Down ts) (fin : Tx) (hfin : fin ≠ []) (hf : fin ≠ [44]) {w : World} {ts : List Tx} (hn : ts.length ≤ n) (h : Rd w rb tv xs ts inn) :
    Calls Tryz.prog 182 #[.pointer (some ⟨rb, 0, none⟩), .string (bs fin), .func (.func fn) first cap] w (GotL w rb tv xs inn (several fin read ts)) := by
  have hrb := h.lt
  have hle := h.le
  have hlen := h.len
  have H := Lib.hid (And.intro h (And.intro hn (And.intro hrb (And.intro hle hlen))))
  have HR := Lib.hid (And.intro hread hd)
  have HF := Lib.hid (And.intro hfin hf)
  clear h hn hread hd hrb hle hlen hfin hf
  go_enter Tryz.func182, Tryz.ntmps182
  go_wp2_with fail
  by_cases hh : ts.head? = some fin
  · obtain ⟨r, rfl⟩ := head_form hh
    refine takes_yes H.out.1 HF.out.1 fun w1 hs1 h1 => ?_
    have X1 := Lib.hid (And.intro hs1 h1)
    clear hs1 h1 hh
    go_wp2_with fail
    go_ret
    rw [several_none]
    exact ⟨X1.out.1, X1.out.2, _, rfl, LR.nil _ _ _ _⟩
  · refine takes_no H.out.1 fin HF.out.1 hh fun w1 hb1 => ?_
    have HH := Lib.hid hh
    have X1 := Lib.hid hb1
    clear hh hb1
    go_wp2_with fail
    refine (HR.out.1 w1 ts H.out.2.1 trivial (H.out.1.later X1.out)).mono ?_
    rintro e w2 ⟨hs2, h2, hres⟩
    cases hrd : read ts with
    | bad r =>
      rw [hrd] at hres h2
      subst hres
      go_wp2_with fail
      refine ⟨rfl, ?_⟩
      rw [several_first HR.out.2 ts HH.out, hrd]
      exact ⟨(Step.of_below X1.out).trans hs2, h2, rfl⟩
    | ok x r =>
      rw [hrd] at hres h2
      obtain ⟨v, rfl, hN⟩ := hres
      obtain ⟨a1, d1, a2, d2, a3, d3, rfl⟩ := hN.form
      have X2 := Lib.hid (And.intro hs2 (And.intro h2 (And.intro hN hrd)))
      clear hs2 h2 hN hrd
      have hA := (Put.new w2 #[.int .u8 (x.kind : Int), .string (tx x.text), .slice a1 x.l.len d1, .slice a2 x.body.len d2, .slice a3 x.els.len d3] TN)
      have hN4 := X2.out.2.2.1.later hA.1 (Nat.le_refl _)
      have HN4 := Lib.hid (And.intro hN4 hA)
      clear hN4 hA
      go_wp2_with (at_builtin; refine wpList_node _ rfl (.tmp 10) (.tmp 13) rfl nodeEl (v := .slice none 0 0) (l := []) (lo := w.heap.size) (hi := w1.heap.size) (hi2 := w2.heap.size) rfl (LR.nil _ _ _ _) HN4.out.1 (y := .slice (some ⟨w2.heap.size, 0, none⟩) 1 1) rfl (Src.lit #[.int .u8 (x.kind : Int), .string (tx x.text), .slice a1 x.l.len d1, .slice a2 x.body.len d2, .slice a3 x.els.len d3] TN rfl rfl) X1.out.size X2.out.1.size (by rw [HN4.out.2.2.2]; omega) (by decide) ?_; intro ao cp w3 hL hB; have X3 := Lib.hid (And.intro hL hB); clear hL hB)
      have hst : SevSt w rb tv xs inn n ts.length fin read (several fin read ts) [x] r (.slice ao 1 cp) w3 := by
        have hq := (HR.out.2 ts).lt X2.out.2.2.2
        have z1 := X1.out.size
        have z2 := X2.out.1.size
        have hrb := H.out.2.2.1
        have hB' := X3.out.2
        have zA := HN4.out.2.2.2
        refine ⟨?_, by have := H.out.2.1; omega, by simp; omega, ?_, ((X2.out.2.1.later HN4.out.2.1).keep hB'.size fun k hk => hB'.block k (by omega)), X3.out.1⟩
        · rw [several_first HR.out.2 ts HH.out, X2.out.2.2.2]; rfl
        · have s2 := ((Step.of_below (row := some rb) X1.out).trans X2.out.1).trans (Step.of_below HN4.out.2.1)
          exact ⟨hB'.os.trans s2.os, hB'.tape.trans s2.tape, hB'.output.trans s2.output, Nat.le_trans s2.size hB'.size, fun k hk hk' => (hB'.block k hk).trans (s2.block k hk hk')⟩
      have HS := Lib.hid hst
      clear hst X3 HN4 X2 X1 HH
      go_loopg [6] r.length (fun gk v6 wr => SevAt w rb tv xs inn n ts.length fin read (several fin read ts) gk v6 wr)
      case atStart => exact ⟨[x], r, rfl, HS.out⟩
      case round =>
        obtain ⟨l, ts1, rfl, hst⟩ := hrel
        obtain ⟨lo1, lc1, rfl⟩ := hst.list.form
        have HT := Lib.hid hst
        clear hst HS
        go_wp2_with fail
        by_cases hh : ts1.head? = some fin
        · obtain ⟨r1, rfl⟩ := head_form hh
          refine takes_yes HT.out.rd HF.out.1 fun w4 hs4 h4 => ?_
          have X4 := Lib.hid (And.intro hs4 h4)
          clear hs4 h4 hh
          go_wp2_with fail
          go_ret
          have hpl := HT.out.plain
          rw [show sevTail fin read (fin :: r1) = .ok [] r1 by unfold sevTail; simp only; rw [if_pos trivial]] at hpl
          rw [← hpl]
          show GotL w rb tv xs inn (.ok (l ++ []) r1) _ _
          rw [List.append_nil]
          exact ⟨HT.out.step.trans X4.out.1, X4.out.2, _, rfl, LR.mono (LR.stepped HT.out.list X4.out.1 H.out.2.2.1 (Nat.le_refl _)) (Nat.le_refl _) X4.out.1.size⟩
        · refine takes_no HT.out.rd fin HF.out.1 hh fun w4 hb4 => ?_
          have HH := Lib.hid hh
          have X4 := Lib.hid hb4
          clear hh hb4
          go_wp2_with fail
          by_cases hc : ts1.head? = some [44]
          · obtain ⟨r1, rfl⟩ := head_form hc
            refine takes_yes (HT.out.rd.later X4.out) (by decide) fun w5 hs5 h5 => ?_
            have X5 := Lib.hid (And.intro hs5 h5)
            clear hs5 h5 hc
            go_wp2_with (refine must_yes ?_)
            have hn1 : r1.length ≤ n := by have := HT.out.len; rw [List.length_cons] at this; omega
            refine (HR.out.1 w5 r1 hn1 trivial X5.out.2).mono ?_
            rintro e w6 ⟨hs6, h6, hres⟩
            have st6 := ((Step.of_below (row := some rb) X4.out).trans X5.out.1).trans hs6
            cases hrd : read r1 with
            | bad q =>
              rw [hrd] at hres h6
              subst hres
              have X6 := Lib.hid (And.intro st6 (And.intro h6 hrd))
              clear st6 h6 hs6 hrd hn1
              go_wp2_with fail
              refine ⟨rfl, ?_⟩
              rw [← HT.out.plain, sevTail_comma HR.out.2 HF.out.2, X6.out.2.2]
              exact ⟨HT.out.step.trans X6.out.1, X6.out.2.1, rfl⟩
            | ok y q =>
              rw [hrd] at hres h6
              obtain ⟨vy, rfl, hN⟩ := hres
              obtain ⟨o1, e1, o2, e2, o3, e3, rfl⟩ := hN.form
              have hA := (Put.new w6 #[.int .u8 (y.kind : Int), .string (tx y.text), .slice o1 y.l.len e1, .slice o2 y.body.len e2, .slice o3 y.els.len e3] TN)
              have hN7 := hN.later hA.1 (Nat.le_refl _)
              have hL7 := (LR.stepped HT.out.list st6 H.out.2.2.1 (Nat.le_refl _)).later hA.1 st6.size
              have hz6 : wr.heap.size ≤ w5.heap.size := Nat.le_trans X4.out.size X5.out.1.size
              have X6 := Lib.hid (And.intro st6 (And.intro h6 (And.intro hrd (And.intro hA (And.intro hN7 (And.intro hL7 (And.intro hz6 hs6)))))))
              have hm : (l.length + 1) * 96 ≤ 140737488351232 := by have := HT.out.many; have := H.out.2.2.2.1; have := H.out.2.2.2.2; rw [List.length_cons] at *; omega
              have HM := Lib.hid hm
              rw [Ns.len_of]
              clear st6 h6 hs6 hrd hn1 hN hA hN7 hL7 hz6 hm
              go_wp2_with (at_builtin; refine wpList_node _ rfl (.tmp 19) (.tmp 22) rfl nodeEl (v := .slice lo1 l.length lc1) (l := l) (lo := w.heap.size) (hi := wr.heap.size) (hi2 := w6.heap.size) rfl (by have := X6.out.2.2.2.2.2.1; rw [Ns.len_of] at this; exact this) (X6.out.2.2.2.2.1.mono X6.out.2.2.2.2.2.2.1 (Nat.le_refl _)) (y := .slice (some ⟨w6.heap.size, 0, none⟩) 1 1) rfl (Src.lit #[.int .u8 (y.kind : Int), .string (tx y.text), .slice o1 y.l.len e1, .slice o2 y.body.len e2, .slice o3 y.els.len e3] TN rfl rfl) HT.out.step.size X6.out.1.size (by rw [X6.out.2.2.2.1.2.2]; omega) HM.out ?_; intro ao cp w7 hL hB; have X7 := Lib.hid (And.intro hL hB); clear hL hB)
              go_roundg q.length
              case measure => have := (HR.out.2 r1).lt X6.out.2.2.1; rw [List.length_cons]; omega
              case rel => exact ⟨l ++ [y], q, rfl, HT.out.more HR.out.2 HF.out.2 X6.out.1 X6.out.2.2.1 X6.out.2.1 H.out.2.2.1 ((X6.out.2.2.2.1.1.mono (Nat.le_trans HT.out.step.size X6.out.1.size)).trans X7.out.2) X7.out.1⟩
          · refine takes_no (HT.out.rd.later X4.out) [44] (by decide) hc fun w5 hb5 => ?_
            have X5 := Lib.hid (And.intro hc hb5)
            clear hc hb5
            go_wp2_with (refine must_no ?_)
            refine ⟨rfl, ?_⟩
            rw [← HT.out.plain, sevTail_bad ts1 HH.out X5.out.1]
            exact ⟨HT.out.step.trans (Step.of_below (X4.out.trans (X5.out.2.mono X4.out.size))), (HT.out.rd.later X4.out).later X5.out.2, rfl⟩
end Go.Proofs.YtcldcigopkfmmaaGreatDoor

/- Trees: the reader: an atom. -/
namespace Go.Proofs.YtcldcigopkfmmaaGreatDoor
open Go.RowKit Go.My Go.Nd

/-- A node in a block of its own, behind a new one. -/
theorem RA.box {w : World} {rb c : Nat} {w1 : World} (h : RA w rb c w1) (cs : Array Value) : RA w rb c (w1.alloc (.cells cs TN)) ∧ (w1.alloc (.cells cs TN)).heap[w1.heap.size]? = some (.cells cs TN (0, 0)) ∧ Below w1.heap.size w1 (w1.alloc (.cells cs TN)) :=
  ⟨h.below (Put.new w1 cs TN).1, (Put.new w1 cs TN).2.1, (Put.new w1 cs TN).1⟩

set_option maxRecDepth 100000 in
set_option maxHeartbeats 2000000 in
theorem atom_paren {rb : Nat} {tv : Value} {xs : List To.T} {inn : Bool} {n : Nat} (hex : Reads 150 #[.pointer (some ⟨rb, 0, none⟩)] rb tv xs inn (fun _ => True) n expr) {w : World} {r : List Tx} (hn : r.length ≤ n) (h : Rd w rb tv xs ([40] :: r) inn) :
    Calls Tryz.prog 171 #[.pointer (some ⟨rb, 0, none⟩)] w (Got w rb tv xs inn ((expr r).then_ fun x r' => must [41] x r')) := by
  have R0 := RA.start h.lt
  have h0 := h.later (Put.new w #[.int .u8 0, .string ⟨#[]⟩, .slice none 0 0, .slice none 0 0, .slice none 0 0] TN).1
  obtain ⟨c, hc⟩ : ∃ c, c = w.heap.size := ⟨_, rfl⟩
  obtain ⟨wA, hwA⟩ : ∃ wA, wA = w.alloc (.cells #[.int .u8 0, .string ⟨#[]⟩, .slice none 0 0, .slice none 0 0, .slice none 0 0] TN) := ⟨_, rfl⟩
  rw [← hwA] at R0 h0
  rw [← hc] at R0
  have X0 := Lib.hid (And.intro R0 h0)
  clear h R0 h0
  have HE := Lib.hid (And.intro hex hn)
  clear hex hn
  go_enter Tryz.func171, Tryz.ntmps171
  go_upto_region 1 with fail
  rw [← hwA, ← hc]
  clear hwA hc
  go_wp2_with fail
  refine takes_yes X0.out.2 (by decide) fun w1 hs1 h1 => ?_
  have X1 := Lib.hid (And.intro (X0.out.1.step hs1) h1)
  clear hs1 h1
  go_wp2_with fail
  refine (HE.out.1 w1 r HE.out.2 trivial X1.out.2).mono ?_
  rintro e w2 ⟨hs2, h2, hres⟩
  cases hrd : expr r with
  | bad q =>
    rw [hrd] at hres h2
    subst hres
    have X2 := Lib.hid (And.intro (X1.out.1.step hs2) (And.intro h2 hrd))
    clear hs2 h2 hrd
    go_wp2_with fail
    refine ⟨rfl, ?_⟩
    rw [X2.out.2.2]
    exact X2.out.1.bad X2.out.2.1
  | ok x q =>
    rw [hrd] at hres h2
    obtain ⟨v, rfl, hN⟩ := hres
    obtain ⟨a1, d1, a2, d2, a3, d3, rfl⟩ := hN.form
    have hb := (X1.out.1.step hs2).box #[.int .u8 (x.kind : Int), .string (tx x.text), .slice a1 x.l.len d1, .slice a2 x.body.len d2, .slice a3 x.els.len d3]
    obtain ⟨b3, hb3⟩ : ∃ b3, b3 = w2.heap.size := ⟨_, rfl⟩
    obtain ⟨w3, hw3⟩ : ∃ w3, w3 = w2.alloc (.cells #[.int .u8 (x.kind : Int), .string (tx x.text), .slice a1 x.l.len d1, .slice a2 x.body.len d2, .slice a3 x.els.len d3] TN) := ⟨_, rfl⟩
    rw [← hw3] at hb
    have X2 := Lib.hid (And.intro hb.1 (And.intro (hb3 ▸ hb.2.1) (And.intro (h2.later hb.2.2) (And.intro (NS.later (NR.past X1.out.1 hN) hb.2.2) (And.intro hrd (show rb < b3 by have := X1.out.1.hrb; have := X1.out.1.lt; have := hs2.size; omega))))))
    clear hb hs2 h2 hN hrd
    go_upto_region 3 with fail
    rw [← hw3, ← hb3]
    clear hw3 hb3
    go_wp2_with fail
    by_cases hh : q.head? = some [41]
    · obtain ⟨q', rfl⟩ := head_form hh
      refine takes_yes X2.out.2.2.1 (by decide) fun w4 hs4 h4 => ?_
      have R4 := X2.out.1.step hs4
      have row4 := (hs4.kept (heap_lt X2.out.2.1) (Nat.ne_of_gt X2.out.2.2.2.2.2)).trans X2.out.2.1
      have N4 := NS.over X2.out.2.2.2.1 hs4 (fun b hb => by have := X2.out.1.hrb; omega)
      obtain ⟨x0, x1, x2, x3, x4, _, _, _, _, _⟩ := row5 row4
      obtain ⟨y0, y1, y2, y3, y4, g0, g1, g2, g3, g4⟩ := row5 R4.row
      have X4 := Lib.hid (And.intro R4 (And.intro h4 N4))
      clear hs4 h4 R4 row4 N4 hh
      go_wp2_with (refine must_yes ?_)
      have hp := put5 X4.out.1.row (.int .u8 (x.kind : Int)) (.string (tx x.text)) (.slice a1 x.l.len d1) (.slice a2 x.body.len d2) (.slice a3 x.els.len d3)
      refine bodyPost_ret (results_cell1 rfl _ _ _ rfl (nodeVar _ c _ _ _ _ _ hp.row)) rfl ?_
      rw [X2.out.2.2.2.2.1]
      show Got w rb tv xs inn (must [41] x ([41] :: q')) _ _
      rw [show must [41] x ([41] :: q') = .ok x q' by unfold must; simp only; rw [if_pos trivial]]
      exact X4.out.1.fin X4.out.2.1 X4.out.2.2 (fun _ h => h.1) hp
    · refine takes_no X2.out.2.2.1 [41] (by decide) hh fun w4 hb4 => ?_
      have X4 := Lib.hid (And.intro hh hb4)
      clear hh hb4
      go_wp2_with (refine must_no ?_)
      refine ⟨rfl, ?_⟩
      rw [X2.out.2.2.2.2.1]
      show Got w rb tv xs inn (must [41] x q) _ _
      rw [show must [41] x q = .bad q by
        cases q with
        | nil => rfl
        | cons s q' => unfold must; simp only; rw [if_neg (by intro e; subst e; exact X4.out.1 rfl)]]
      exact (X2.out.1.below X4.out.2).bad (X2.out.2.2.1.later X4.out.2)

set_option maxRecDepth 100000 in
set_option maxHeartbeats 2000000 in
theorem atom_list {rb : Nat} {tv : Value} {xs : List To.T} {inn : Bool} {n : Nat} (hex : Reads 150 #[.pointer (some ⟨rb, 0, none⟩)] rb tv xs inn (fun _ => True) n expr) {w : World} {r : List Tx} (hn : r.length ≤ n) (h : Rd w rb tv xs ([91] :: r) inn) :
    Calls Tryz.prog 171 #[.pointer (some ⟨rb, 0, none⟩)] w (Got w rb tv xs inn ((several [93] expr r).map fun l => ⟨3, [], Ns.of l, .nil, .nil⟩)) := by
  have R0 := RA.start h.lt
  have h0 := h.later (Put.new w #[.int .u8 0, .string ⟨#[]⟩, .slice none 0 0, .slice none 0 0, .slice none 0 0] TN).1
  obtain ⟨c, hc⟩ : ∃ c, c = w.heap.size := ⟨_, rfl⟩
  obtain ⟨wA, hwA⟩ : ∃ wA, wA = w.alloc (.cells #[.int .u8 0, .string ⟨#[]⟩, .slice none 0 0, .slice none 0 0, .slice none 0 0] TN) := ⟨_, rfl⟩
  rw [← hwA] at R0 h0
  rw [← hc] at R0
  have X0 := Lib.hid (And.intro R0 h0)
  clear h R0 h0
  have HE := Lib.hid (And.intro hex hn)
  clear hex hn
  go_enter Tryz.func171, Tryz.ntmps171
  go_upto_region 1 with fail
  rw [← hwA, ← hc]
  clear hwA hc
  go_wp2_with fail
  refine takes_no X0.out.2 [40] (by decide) (by simp) fun w1 hb1 => ?_
  have X1 := Lib.hid (And.intro (X0.out.1.below hb1) (X0.out.2.later hb1))
  clear hb1
  go_wp2_with fail
  refine takes_yes X1.out.2 (by decide) fun w2 hs2 h2 => ?_
  have X2 := Lib.hid (And.intro (X1.out.1.step hs2) h2)
  clear hs2 h2
  go_wp2_with fail
  refine (sevn_t (first := #[.pointer (some ⟨rb, 0, none⟩)]) (cap := #[]) (fun _ => rfl) (by rw [Array.append_empty]; exact HE.out.1) expr_down [93] (by decide) (by decide) HE.out.2 X2.out.2).mono ?_
  rintro e w3 ⟨hs3, h3, hres⟩
  cases hrd : several [93] expr r with
  | bad q =>
    rw [hrd] at hres h3
    subst hres
    have X3 := Lib.hid (And.intro (X2.out.1.step hs3) (And.intro h3 hrd))
    clear hs3 h3 hrd
    go_wp2_with fail
    refine ⟨rfl, ?_⟩
    rw [X3.out.2.2]
    exact X3.out.1.bad X3.out.2.1
  | ok l q =>
    rw [hrd] at hres h3
    obtain ⟨v, rfl, hL⟩ := hres
    obtain ⟨a1, d1, rfl⟩ := hL.form
    have R3 := X2.out.1.step hs3
    obtain ⟨y0, y1, y2, y3, y4, g0, g1, g2, g3, g4⟩ := row5 R3.row
    have X3 := Lib.hid (And.intro R3 (And.intro h3 (And.intro hL hrd)))
    have HZ := Lib.hid hs3.size
    clear hs3 h3 hrd R3 hL
    go_wp2_with fail
    have hp := put5 X3.out.1.row (.int .u8 3) (.string ⟨#[]⟩) (.slice a1 (Ns.of l).len d1) (.slice none 0 0) (.slice none 0 0)
    refine bodyPost_ret (results_cell1 rfl _ _ _ rfl (nodeVar _ c _ _ _ _ _ hp.row)) rfl ?_
    rw [X3.out.2.2.2]
    have hN : NR w3 TN w2.heap.size w3.heap.size (.agg #[.int .u8 ((3 : Nat) : Int), .string (tx []), .slice a1 (Ns.of l).len d1, .slice none 0 0, .slice none 0 0]) ⟨3, [], Ns.of l, .nil, .nil⟩ := NR.mk (by decide) (by decide) X3.out.2.2.1 (LR.nil _ _ _ _) (LR.nil _ _ _ _) HZ.out (Nat.le_refl _) (Nat.le_refl _)
    exact X3.out.1.fin (x := ⟨3, [], Ns.of l, .nil, .nil⟩) X3.out.2.1 (NR.past X2.out.1 hN) (fun _ h => h) hp

/-- A name, and what it is called with. -/
def atomName (s : Tx) (r : List Tx) : R Nd := match r with
  | [] => .ok (leaf 2 s) []
  | p :: r' => if p = [40] then (several [41] expr r').map fun l => ⟨4, s, Ns.of l, .nil, .nil⟩ else .ok (leaf 2 s) (p :: r')
theorem atomName_call (s : Tx) (r : List Tx) : atomName s ([40] :: r) = (several [41] expr r).map fun l => ⟨4, s, Ns.of l, .nil, .nil⟩ := by unfold atomName; simp only; rw [if_pos trivial]
theorem atomName_no (s : Tx) (r : List Tx) (h : r.head? ≠ some [40]) : atomName s r = .ok (leaf 2 s) r := by
  cases r with
  | nil => rfl
  | cons p r' => unfold atomName; simp only; rw [if_neg (by intro e; subst e; exact h rfl)]
theorem name_not {s : Tx} (h : To.name s = true) (u : Tx) (hu : To.name u = false) : s ≠ u := fun e => by subst e; rw [hu] at h; cases h

set_option maxRecDepth 100000 in
set_option maxHeartbeats 2000000 in
theorem atom_name {rb : Nat} {tv : Value} {xs : List To.T} {inn : Bool} {n : Nat} (hex : Reads 150 #[.pointer (some ⟨rb, 0, none⟩)] rb tv xs inn (fun _ => True) n expr) {w : World} {s : Tx} {r : List Tx} (hs : To.name s = true) (hn : r.length ≤ n) (h : Rd w rb tv xs (s :: r) inn) :
    Calls Tryz.prog 171 #[.pointer (some ⟨rb, 0, none⟩)] w (Got w rb tv xs inn (atomName s r)) := by
  have hsl : s.length ≤ 65536 := by obtain ⟨_, _, _, _, _, _, _, _, _, _, _, _, hs⟩ := h.token 0 (by simp); simpa using hs
  have n1 := name_not hs [40] (by decide)
  have n2 := name_not hs [91] (by decide)
  have R0 := RA.start h.lt
  have h0 := h.later (Put.new w #[.int .u8 0, .string ⟨#[]⟩, .slice none 0 0, .slice none 0 0, .slice none 0 0] TN).1
  obtain ⟨c, hc⟩ : ∃ c, c = w.heap.size := ⟨_, rfl⟩
  obtain ⟨wA, hwA⟩ : ∃ wA, wA = w.alloc (.cells #[.int .u8 0, .string ⟨#[]⟩, .slice none 0 0, .slice none 0 0, .slice none 0 0] TN) := ⟨_, rfl⟩
  rw [← hwA] at R0 h0
  rw [← hc] at R0
  have X0 := Lib.hid (And.intro R0 h0)
  clear h R0 h0
  have HE := Lib.hid (And.intro hex (And.intro hn (And.intro hs (And.intro n1 (And.intro n2 hsl)))))
  clear hex hn hs n1 n2 hsl
  go_enter Tryz.func171, Tryz.ntmps171
  go_upto_region 1 with fail
  rw [← hwA, ← hc]
  clear hwA hc
  go_wp2_with fail
  refine takes_no X0.out.2 [40] (by decide) (by have := HE.out.2.2.2.1; simpa using this) fun w1 hb1 => ?_
  have X1 := Lib.hid (And.intro (X0.out.1.below hb1) (X0.out.2.later hb1))
  clear hb1
  go_wp2_with fail
  refine takes_no X1.out.2 [91] (by decide) (by have := HE.out.2.2.2.2.1; simpa using this) fun w2 hb2 => ?_
  have X2 := Lib.hid (And.intro (X1.out.1.below hb2) (X1.out.2.later hb2))
  clear hb2
  go_wp2_with fail
  refine named_t X2.out.2 fun w3 hb3 => ?_
  rw [show To.name ((s :: r).getD 0 []) = true from HE.out.2.2.1]
  have X3 := Lib.hid (And.intro (X2.out.1.below hb3) (X2.out.2.later hb3))
  clear hb3
  go_wp2_with fail
  refine next_yes X3.out.2 fun w4 hs4 h4 => ?_
  have X4 := Lib.hid (And.intro (X3.out.1.step hs4) h4)
  clear hs4 h4
  have hb := X4.out.1.box #[.int .u8 2, .string (bs s), .slice none 0 0, .slice none 0 0, .slice none 0 0]
  obtain ⟨b4, hb4⟩ : ∃ b4, b4 = w4.heap.size := ⟨_, rfl⟩
  obtain ⟨w5, hw5⟩ : ∃ w5, w5 = w4.alloc (.cells #[.int .u8 2, .string (bs s), .slice none 0 0, .slice none 0 0, .slice none 0 0] TN) := ⟨_, rfl⟩
  rw [← hw5] at hb
  have X5 := Lib.hid (And.intro hb.1 (And.intro (hb4 ▸ hb.2.1) (And.intro (X4.out.2.later hb.2.2) (And.intro (show c < b4 by have := X4.out.1.lt; omega) (show rb < b4 by have := X4.out.1.hrb; have := X4.out.1.lt; omega)))))
  clear hb
  go_upto_region 9 with fail
  rw [← hw5, ← hb4]
  clear hw5 hb4
  go_wp2_with fail
  by_cases hh : r.head? = some [40]
  · obtain ⟨r', rfl⟩ := head_form hh
    refine takes_yes X5.out.2.2.1 (by decide) fun w6 hs6 h6 => ?_
    have X6 := Lib.hid (And.intro (X5.out.1.step hs6) (And.intro h6 ((hs6.kept (heap_lt X5.out.2.1) (Nat.ne_of_gt X5.out.2.2.2.2)).trans X5.out.2.1)))
    clear hs6 h6 hh
    go_wp2_with fail
    have hn' : r'.length ≤ n := by have := HE.out.2.1; rw [List.length_cons] at this; omega
    refine (sevn_t (first := #[.pointer (some ⟨rb, 0, none⟩)]) (cap := #[]) (fun _ => rfl) (by rw [Array.append_empty]; exact HE.out.1) expr_down [41] (by decide) (by decide) hn' X6.out.2.1).mono ?_
    rintro e w7 ⟨hs7, h7, hres⟩
    cases hrd : several [41] expr r' with
    | bad q =>
      rw [hrd] at hres h7
      subst hres
      have X7 := Lib.hid (And.intro (X6.out.1.step hs7) (And.intro h7 hrd))
      clear hs7 h7 hrd hn'
      go_wp2_with fail
      refine ⟨rfl, ?_⟩
      rw [atomName_call, X7.out.2.2]
      exact X7.out.1.bad X7.out.2.1
    | ok l q =>
      rw [hrd] at hres h7
      obtain ⟨v, rfl, hL⟩ := hres
      obtain ⟨a1, d1, rfl⟩ := hL.form
      have R7 := X6.out.1.step hs7
      have row7 := (hs7.kept (heap_lt X6.out.2.2) (Nat.ne_of_gt X5.out.2.2.2.2)).trans X6.out.2.2
      obtain ⟨x0, x1, x2, x3, x4, f0, f1, f2, f3, f4⟩ := row5 row7
      have hp1 := (Put.one row7 0 (.int .u8 4)).trans (Put.one (Put.one row7 0 (.int .u8 4)).row 2 (.slice a1 (Ns.of l).len d1))
      have hp1' : Put w7 ((w7.setCell ⟨b4, 0, none⟩ (.int .u8 4)).setCell ⟨b4, 2, none⟩ (.slice a1 (Ns.of l).len d1)) b4 #[.int .u8 4, .string (bs s), .slice a1 (Ns.of l).len d1, .slice none 0 0, .slice none 0 0] TN := hp1
      obtain ⟨w8, hw8⟩ : ∃ w8, w8 = (w7.setCell ⟨b4, 0, none⟩ (.int .u8 4)).setCell ⟨b4, 2, none⟩ (.slice a1 (Ns.of l).len d1) := ⟨_, rfl⟩
      rw [← hw8] at hp1'
      have R8 := R7.put hp1' X5.out.2.2.2.1
      have h8 := h7.put hp1' X5.out.2.2.2.2
      have hL8 : LR w8 TN w6.heap.size w7.heap.size (.slice a1 (Ns.of l).len d1) (Ns.of l) := LR.frame hL fun b q1 _ => hp1'.oth b (by have := heap_lt X6.out.2.2; omega)
      have hN : NR w8 TN w6.heap.size w8.heap.size (.agg #[.int .u8 ((4 : Nat) : Int), .string (tx s), .slice a1 (Ns.of l).len d1, .slice none 0 0, .slice none 0 0]) ⟨4, s, Ns.of l, .nil, .nil⟩ := NR.mk (by decide) (by have := HE.out.2.2.2.2.2; omega) hL8 (LR.nil _ _ _ _) (LR.nil _ _ _ _) hs7.size (by have := hp1'.size; omega) (Nat.le_refl _)
      have hN8 : NS w8 TN (fun b => c < b) (.agg #[.int .u8 ((4 : Nat) : Int), .string (tx s), .slice a1 (Ns.of l).len d1, .slice none 0 0, .slice none 0 0]) ⟨4, s, Ns.of l, .nil, .nil⟩ := hN.ns fun b q1 _ => by have := heap_lt X6.out.1.row; omega
      obtain ⟨z0, z1, z2, z3, z4, _, _, _, _, _⟩ := row5 hp1'.row
      obtain ⟨y0, y1, y2, y3, y4, g0, g1, g2, g3, g4⟩ := row5 R8.row
      have X7 := Lib.hid (And.intro R8 (And.intro h8 (And.intro hN8 hrd)))
      clear hs7 h7 hrd R7 hL row7 hp1 R8 h8 hL8 hN hN8 hn' hp1'
      go_upto_region 11 with fail
      rw [← hw8]
      clear hw8 x0 x1 x2 x3 x4 f0 f1 f2 f3 f4
      go_wp2_with fail
      have hp := put5 X7.out.1.row (.int .u8 4) (.string (bs s)) (.slice a1 (Ns.of l).len d1) (.slice none 0 0) (.slice none 0 0)
      refine bodyPost_ret (results_cell1 rfl _ _ _ rfl (nodeVar _ c _ _ _ _ _ hp.row)) rfl ?_
      rw [atomName_call, X7.out.2.2.2]
      exact X7.out.1.fin (x := ⟨4, s, Ns.of l, .nil, .nil⟩) X7.out.2.1 X7.out.2.2.1 (fun _ h => h) hp
  · refine takes_no X5.out.2.2.1 [40] (by decide) hh fun w6 hb6 => ?_
    have R6 := X5.out.1.below hb6
    have row6 := (hb6.block _ (heap_lt X5.out.2.1)).trans X5.out.2.1
    obtain ⟨x0, x1, x2, x3, x4, _, _, _, _, _⟩ := row5 row6
    obtain ⟨y0, y1, y2, y3, y4, g0, g1, g2, g3, g4⟩ := row5 R6.row
    have X6 := Lib.hid (And.intro R6 (And.intro (X5.out.2.2.1.later hb6) hh))
    clear hb6 R6 row6 hh
    go_wp2_with fail
    have hp := put5 X6.out.1.row (.int .u8 2) (.string (bs s)) (.slice none 0 0) (.slice none 0 0) (.slice none 0 0)
    refine bodyPost_ret (results_cell1 rfl _ _ _ rfl (nodeVar _ c _ _ _ _ _ hp.row)) rfl ?_
    have hN : NR w6 TN w6.heap.size w6.heap.size (.agg #[.int .u8 ((2 : Nat) : Int), .string (tx s), .slice none 0 0, .slice none 0 0, .slice none 0 0]) (leaf 2 s) := NR.mk (by decide) (by have := HE.out.2.2.2.2.2; omega) (LR.nil _ _ _ _) (LR.nil _ _ _ _) (LR.nil _ _ _ _) (Nat.le_refl _) (Nat.le_refl _) (Nat.le_refl _)
    rw [atomName_no s r X6.out.2.2]
    exact X6.out.1.fin (x := leaf 2 s) X6.out.2.1 (NR.past X6.out.1 hN) (fun _ h => h) hp

set_option maxRecDepth 100000 in
set_option maxHeartbeats 2000000 in
theorem atom_num {rb : Nat} {tv : Value} {xs : List To.T} {inn : Bool} {w : World} {ts : List Tx} (k1 : ts.head? ≠ some [40]) (k2 : ts.head? ≠ some [91]) (hs : To.name (ts.getD 0 []) = false) (h : Rd w rb tv xs ts inn) :
    Calls Tryz.prog 171 #[.pointer (some ⟨rb, 0, none⟩)] w (Got w rb tv xs inn (number ts)) := by
  have R0 := RA.start h.lt
  have h0 := h.later (Put.new w #[.int .u8 0, .string ⟨#[]⟩, .slice none 0 0, .slice none 0 0, .slice none 0 0] TN).1
  obtain ⟨c, hc⟩ : ∃ c, c = w.heap.size := ⟨_, rfl⟩
  obtain ⟨wA, hwA⟩ : ∃ wA, wA = w.alloc (.cells #[.int .u8 0, .string ⟨#[]⟩, .slice none 0 0, .slice none 0 0, .slice none 0 0] TN) := ⟨_, rfl⟩
  rw [← hwA] at R0 h0
  rw [← hc] at R0
  have X0 := Lib.hid (And.intro R0 h0)
  clear h R0 h0
  have HE := Lib.hid (And.intro hs (And.intro k1 k2))
  clear hs k1 k2
  go_enter Tryz.func171, Tryz.ntmps171
  go_upto_region 1 with fail
  rw [← hwA, ← hc]
  clear hwA hc
  go_wp2_with fail
  refine takes_no X0.out.2 [40] (by decide) HE.out.2.1 fun w1 hb1 => ?_
  have X1 := Lib.hid (And.intro (X0.out.1.below hb1) (X0.out.2.later hb1))
  clear hb1
  go_wp2_with fail
  refine takes_no X1.out.2 [91] (by decide) HE.out.2.2 fun w2 hb2 => ?_
  have X2 := Lib.hid (And.intro (X1.out.1.below hb2) (X1.out.2.later hb2))
  clear hb2
  go_wp2_with fail
  refine named_t X2.out.2 fun w3 hb3 => ?_
  rw [HE.out.1]
  have X3 := Lib.hid (And.intro (X2.out.1.below hb3) (X2.out.2.later hb3))
  clear hb3
  go_wp2_with fail
  refine (rnum_t X3.out.2).mono ?_
  rintro e w4 ⟨hs4, h4, hres⟩
  have R4 := X3.out.1.step hs4
  cases hrd : number ts with
  | bad q =>
    rw [hrd] at hres h4
    subst hres
    have X4 := Lib.hid (And.intro R4 (And.intro h4 hrd))
    clear hs4 h4 hrd R4
    go_wp2_with fail
    refine ⟨rfl, ?_⟩
    exact X4.out.1.bad X4.out.2.1
  | ok x q =>
    rw [hrd] at hres h4
    obtain ⟨v, rfl, hN⟩ := hres
    obtain ⟨a1, d1, a2, d2, a3, d3, rfl⟩ := hN.form
    obtain ⟨y0, y1, y2, y3, y4, g0, g1, g2, g3, g4⟩ := row5 R4.row
    have X4 := Lib.hid (And.intro R4 (And.intro h4 (And.intro hrd (NR.past X3.out.1 hN))))
    clear hs4 h4 hrd R4 hN
    go_wp2_with fail
    have hp := put5 X4.out.1.row (.int .u8 (x.kind : Int)) (.string (tx x.text)) (.slice a1 x.l.len d1) (.slice a2 x.body.len d2) (.slice a3 x.els.len d3)
    refine bodyPost_ret (results_cell1 rfl _ _ _ rfl (nodeVar _ c _ _ _ _ _ hp.row)) rfl ?_
    first | rw [X4.out.2.2.1] | skip
    exact X4.out.1.fin X4.out.2.1 X4.out.2.2.2 (fun _ h => h) hp

/-- An atom. -/
theorem atom_r {rb : Nat} {tv : Value} {xs : List To.T} {inn : Bool} {n : Nat} (hex : Reads 150 #[.pointer (some ⟨rb, 0, none⟩)] rb tv xs inn (fun _ => True) n expr) :
    Reads 171 #[.pointer (some ⟨rb, 0, none⟩)] rb tv xs inn (fun _ => True) (n + 1) (atom expr) := by
  intro w ts hn _ h
  cases ts with
  | nil => exact atom_num (by simp) (by simp) (by decide) h
  | cons s r =>
    rw [List.length_cons] at hn
    by_cases h1 : s = [40]
    · subst h1; exact atom_paren hex (by omega) h
    · by_cases h2 : s = [91]
      · subst h2; exact atom_list hex (by omega) h
      · cases h3 : To.name s with
        | true =>
          have := atom_name hex h3 (by omega) h
          unfold atom
          simp only
          rw [if_neg h1, if_neg h2, if_pos h3]
          exact this
        | false =>
          have := atom_num (ts := s :: r) (by simpa using h1) (by simpa using h2) h3 h
          unfold atom
          simp only
          rw [if_neg h1, if_neg h2, if_neg (by rw [h3]; decide)]
          exact this
end Go.Proofs.YtcldcigopkfmmaaGreatDoor

/- Trees: the reader: what has signs ahead; so expressions as a whole. -/
namespace Go.Proofs.YtcldcigopkfmmaaGreatDoor
open Go.RowKit Go.My Go.Nd

set_option maxRecDepth 100000 in
set_option maxHeartbeats 2000000 in
theorem signed_neg {rb : Nat} {tv : Value} {xs : List To.T} {inn : Bool} {n : Nat} (hsg : Reads 162 #[.pointer (some ⟨rb, 0, none⟩)] rb tv xs inn (fun _ => True) n sg) {w : World} {r : List Tx} (hn : r.length ≤ n) (h : Rd w rb tv xs ([45] :: r) inn) :
    Calls Tryz.prog 162 #[.pointer (some ⟨rb, 0, none⟩)] w (Got w rb tv xs inn ((sg r).map fun x => ⟨6, [], Ns.of [x], .nil, .nil⟩)) := by
  have R0 := RA.start h.lt
  have h0 := h.later (Put.new w #[.int .u8 0, .string ⟨#[]⟩, .slice none 0 0, .slice none 0 0, .slice none 0 0] TN).1
  obtain ⟨c, hc⟩ : ∃ c, c = w.heap.size := ⟨_, rfl⟩
  obtain ⟨wA, hwA⟩ : ∃ wA, wA = w.alloc (.cells #[.int .u8 0, .string ⟨#[]⟩, .slice none 0 0, .slice none 0 0, .slice none 0 0] TN) := ⟨_, rfl⟩
  rw [← hwA] at R0 h0
  rw [← hc] at R0
  have X0 := Lib.hid (And.intro R0 h0)
  clear h R0 h0
  have HE := Lib.hid (And.intro hsg hn)
  clear hsg hn
  go_enter Tryz.func162, Tryz.ntmps162
  go_upto_region 1 with fail
  rw [← hwA, ← hc]
  clear hwA hc
  go_wp2_with fail
  have X1 := Lib.hid X0.out
  refine takes_yes X1.out.2 (by decide) fun w2 hs2 h2 => ?_
  have X2 := Lib.hid (And.intro (X1.out.1.step hs2) h2)
  clear hs2 h2
  go_wp2_with fail
  refine (HE.out.1 w2 r HE.out.2 trivial X2.out.2).mono ?_
  rintro e w3 ⟨hs3, h3, hres⟩
  cases hrd : sg r with
  | bad q =>
    rw [hrd] at hres h3
    subst hres
    have X3 := Lib.hid (And.intro (X2.out.1.step hs3) (And.intro h3 hrd))
    clear hs3 h3 hrd
    go_wp2_with fail
    refine ⟨rfl, ?_⟩
    first | rw [X3.out.2.2] | skip
    exact X3.out.1.bad X3.out.2.1
  | ok x q =>
    rw [hrd] at hres h3
    obtain ⟨v, rfl, hN⟩ := hres
    obtain ⟨a1, d1, a2, d2, a3, d3, rfl⟩ := hN.form
    have hb := (X2.out.1.step hs3).box #[.int .u8 (x.kind : Int), .string (tx x.text), .slice a1 x.l.len d1, .slice a2 x.body.len d2, .slice a3 x.els.len d3]
    have hL := LR.one hN hs3.size (Nat.le_refl _)
    have hz := (Put.new w3 #[.int .u8 (x.kind : Int), .string (tx x.text), .slice a1 x.l.len d1, .slice a2 x.body.len d2, .slice a3 x.els.len d3] TN).2.2
    obtain ⟨y0, y1, y2, y3, y4, g0, g1, g2, g3, g4⟩ := row5 hb.1.row
    have hN4 : NR (w3.alloc (.cells #[.int .u8 (x.kind : Int), .string (tx x.text), .slice a1 x.l.len d1, .slice a2 x.body.len d2, .slice a3 x.els.len d3] TN)) TN w2.heap.size (w3.alloc (.cells #[.int .u8 (x.kind : Int), .string (tx x.text), .slice a1 x.l.len d1, .slice a2 x.body.len d2, .slice a3 x.els.len d3] TN)).heap.size (.agg #[.int .u8 ((6 : Nat) : Int), .string (tx []), .slice (some ⟨w3.heap.size, 0, none⟩) 1 1, .slice none 0 0, .slice none 0 0]) ⟨6, [], Ns.of [x], .nil, .nil⟩ := NR.mk (by decide) (by decide) (hz ▸ hL) (LR.nil _ _ _ _) (LR.nil _ _ _ (w3.alloc (.cells #[.int .u8 (x.kind : Int), .string (tx x.text), .slice a1 x.l.len d1, .slice a2 x.body.len d2, .slice a3 x.els.len d3] TN)).heap.size) (by have := hs3.size; omega) (Nat.le_refl _) (Nat.le_refl _)
    have X4 := Lib.hid (And.intro hb.1 (And.intro (h3.later hb.2.2) (And.intro (NR.past X2.out.1 hN4) hrd)))
    clear hs3 h3 hN hb hL hN4 hz hrd
    go_wp2_with fail
    have hp := put5 X4.out.1.row (.int .u8 6) (.string ⟨#[]⟩) (.slice (some ⟨w3.heap.size, 0, none⟩) 1 1) (.slice none 0 0) (.slice none 0 0)
    refine bodyPost_ret (results_cell1 rfl _ _ _ rfl (nodeVar _ c _ _ _ _ _ hp.row)) rfl ?_
    first | rw [X4.out.2.2.2] | skip
    exact X4.out.1.fin (x := ⟨6, [], Ns.of [x], .nil, .nil⟩) X4.out.2.1 X4.out.2.2.1 (fun _ h => h) hp

set_option maxRecDepth 100000 in
set_option maxHeartbeats 2000000 in
theorem signed_not {rb : Nat} {tv : Value} {xs : List To.T} {inn : Bool} {n : Nat} (hsg : Reads 162 #[.pointer (some ⟨rb, 0, none⟩)] rb tv xs inn (fun _ => True) n sg) {w : World} {r : List Tx} (hn : r.length ≤ n) (h : Rd w rb tv xs ([110, 111, 116] :: r) inn) :
    Calls Tryz.prog 162 #[.pointer (some ⟨rb, 0, none⟩)] w (Got w rb tv xs inn ((sg r).map fun x => ⟨7, [], Ns.of [x], .nil, .nil⟩)) := by
  have R0 := RA.start h.lt
  have h0 := h.later (Put.new w #[.int .u8 0, .string ⟨#[]⟩, .slice none 0 0, .slice none 0 0, .slice none 0 0] TN).1
  obtain ⟨c, hc⟩ : ∃ c, c = w.heap.size := ⟨_, rfl⟩
  obtain ⟨wA, hwA⟩ : ∃ wA, wA = w.alloc (.cells #[.int .u8 0, .string ⟨#[]⟩, .slice none 0 0, .slice none 0 0, .slice none 0 0] TN) := ⟨_, rfl⟩
  rw [← hwA] at R0 h0
  rw [← hc] at R0
  have X0 := Lib.hid (And.intro R0 h0)
  clear h R0 h0
  have HE := Lib.hid (And.intro hsg hn)
  clear hsg hn
  go_enter Tryz.func162, Tryz.ntmps162
  go_upto_region 1 with fail
  rw [← hwA, ← hc]
  clear hwA hc
  go_wp2_with fail
  refine takes_no X0.out.2 [45] (by decide) (by simp) fun w1 hb1 => ?_
  have X1 := Lib.hid (And.intro (X0.out.1.below hb1) (X0.out.2.later hb1))
  clear hb1
  go_wp2_with fail
  refine takes_yes X1.out.2 (by decide) fun w2 hs2 h2 => ?_
  have X2 := Lib.hid (And.intro (X1.out.1.step hs2) h2)
  clear hs2 h2
  go_wp2_with fail
  refine (HE.out.1 w2 r HE.out.2 trivial X2.out.2).mono ?_
  rintro e w3 ⟨hs3, h3, hres⟩
  cases hrd : sg r with
  | bad q =>
    rw [hrd] at hres h3
    subst hres
    have X3 := Lib.hid (And.intro (X2.out.1.step hs3) (And.intro h3 hrd))
    clear hs3 h3 hrd
    go_wp2_with fail
    refine ⟨rfl, ?_⟩
    first | rw [X3.out.2.2] | skip
    exact X3.out.1.bad X3.out.2.1
  | ok x q =>
    rw [hrd] at hres h3
    obtain ⟨v, rfl, hN⟩ := hres
    obtain ⟨a1, d1, a2, d2, a3, d3, rfl⟩ := hN.form
    have hb := (X2.out.1.step hs3).box #[.int .u8 (x.kind : Int), .string (tx x.text), .slice a1 x.l.len d1, .slice a2 x.body.len d2, .slice a3 x.els.len d3]
    have hL := LR.one hN hs3.size (Nat.le_refl _)
    have hz := (Put.new w3 #[.int .u8 (x.kind : Int), .string (tx x.text), .slice a1 x.l.len d1, .slice a2 x.body.len d2, .slice a3 x.els.len d3] TN).2.2
    obtain ⟨y0, y1, y2, y3, y4, g0, g1, g2, g3, g4⟩ := row5 hb.1.row
    have hN4 : NR (w3.alloc (.cells #[.int .u8 (x.kind : Int), .string (tx x.text), .slice a1 x.l.len d1, .slice a2 x.body.len d2, .slice a3 x.els.len d3] TN)) TN w2.heap.size (w3.alloc (.cells #[.int .u8 (x.kind : Int), .string (tx x.text), .slice a1 x.l.len d1, .slice a2 x.body.len d2, .slice a3 x.els.len d3] TN)).heap.size (.agg #[.int .u8 ((7 : Nat) : Int), .string (tx []), .slice (some ⟨w3.heap.size, 0, none⟩) 1 1, .slice none 0 0, .slice none 0 0]) ⟨7, [], Ns.of [x], .nil, .nil⟩ := NR.mk (by decide) (by decide) (hz ▸ hL) (LR.nil _ _ _ _) (LR.nil _ _ _ (w3.alloc (.cells #[.int .u8 (x.kind : Int), .string (tx x.text), .slice a1 x.l.len d1, .slice a2 x.body.len d2, .slice a3 x.els.len d3] TN)).heap.size) (by have := hs3.size; omega) (Nat.le_refl _) (Nat.le_refl _)
    have X4 := Lib.hid (And.intro hb.1 (And.intro (h3.later hb.2.2) (And.intro (NR.past X2.out.1 hN4) hrd)))
    clear hs3 h3 hN hb hL hN4 hz hrd
    go_wp2_with fail
    have hp := put5 X4.out.1.row (.int .u8 7) (.string ⟨#[]⟩) (.slice (some ⟨w3.heap.size, 0, none⟩) 1 1) (.slice none 0 0) (.slice none 0 0)
    refine bodyPost_ret (results_cell1 rfl _ _ _ rfl (nodeVar _ c _ _ _ _ _ hp.row)) rfl ?_
    first | rw [X4.out.2.2.2] | skip
    exact X4.out.1.fin (x := ⟨7, [], Ns.of [x], .nil, .nil⟩) X4.out.2.1 X4.out.2.2.1 (fun _ h => h) hp

/-- An atom, and what it is raised to. -/
def sgPow (x : Nd) (r : List Tx) : R Nd := match r with
  | [] => .ok x []
  | p :: r'' => if p = [94] then (number r'').map (bin [94] x) else .ok x (p :: r'')
theorem sgPow_no (x : Nd) (r : List Tx) (h : r.head? ≠ some [94]) : sgPow x r = .ok x r := by
  cases r with
  | nil => rfl
  | cons p r' => unfold sgPow; simp only; rw [if_neg (by intro e; subst e; exact h rfl)]
theorem sgPow_yes (x : Nd) (r : List Tx) : sgPow x ([94] :: r) = (number r).map (bin [94] x) := by unfold sgPow; simp only; rw [if_pos trivial]

set_option maxRecDepth 100000 in
set_option maxHeartbeats 4000000 in
theorem signed_atom {rb : Nat} {tv : Value} {xs : List To.T} {inn : Bool} {n : Nat} (hat : Reads 171 #[.pointer (some ⟨rb, 0, none⟩)] rb tv xs inn (fun _ => True) n (atom expr)) {w : World} {ts : List Tx} (hn : ts.length ≤ n) (k1 : ts.head? ≠ some [45]) (k2 : ts.head? ≠ some [110, 111, 116]) (h : Rd w rb tv xs ts inn) :
    Calls Tryz.prog 162 #[.pointer (some ⟨rb, 0, none⟩)] w (Got w rb tv xs inn ((atom expr ts).then_ sgPow)) := by
  have R0 := RA.start h.lt
  have h0 := h.later (Put.new w #[.int .u8 0, .string ⟨#[]⟩, .slice none 0 0, .slice none 0 0, .slice none 0 0] TN).1
  obtain ⟨c, hc⟩ : ∃ c, c = w.heap.size := ⟨_, rfl⟩
  obtain ⟨wA, hwA⟩ : ∃ wA, wA = w.alloc (.cells #[.int .u8 0, .string ⟨#[]⟩, .slice none 0 0, .slice none 0 0, .slice none 0 0] TN) := ⟨_, rfl⟩
  rw [← hwA] at R0 h0
  rw [← hc] at R0
  have X0 := Lib.hid (And.intro R0 h0)
  clear h R0 h0
  have HE := Lib.hid (And.intro hat (And.intro hn (And.intro k1 k2)))
  clear hat hn k1 k2
  go_enter Tryz.func162, Tryz.ntmps162
  go_upto_region 1 with fail
  rw [← hwA, ← hc]
  clear hwA hc
  go_wp2_with fail
  refine takes_no X0.out.2 [45] (by decide) HE.out.2.2.1 fun w1 hb1 => ?_
  have X1 := Lib.hid (And.intro (X0.out.1.below hb1) (X0.out.2.later hb1))
  clear hb1
  go_wp2_with fail
  refine takes_no X1.out.2 [110, 111, 116] (by decide) HE.out.2.2.2 fun w2 hb2 => ?_
  have X2 := Lib.hid (And.intro (X1.out.1.below hb2) (X1.out.2.later hb2))
  clear hb2
  go_wp2_with fail
  refine (HE.out.1 w2 ts HE.out.2.1 trivial X2.out.2).mono ?_
  rintro e w3 ⟨hs3, h3, hres⟩
  cases hrd : atom expr ts with
  | bad q =>
    rw [hrd] at hres h3
    subst hres
    have X3 := Lib.hid (And.intro (X2.out.1.step hs3) (And.intro h3 hrd))
    clear hs3 h3 hrd
    go_wp2_with fail
    refine ⟨rfl, ?_⟩
    first | rw [X3.out.2.2] | skip
    exact X3.out.1.bad X3.out.2.1
  | ok x q =>
    rw [hrd] at hres h3
    obtain ⟨v, rfl, hN⟩ := hres
    obtain ⟨a1, d1, a2, d2, a3, d3, rfl⟩ := hN.form
    have hb := (X2.out.1.step hs3).box #[.int .u8 (x.kind : Int), .string (tx x.text), .slice a1 x.l.len d1, .slice a2 x.body.len d2, .slice a3 x.els.len d3]
    obtain ⟨b3, hb3⟩ : ∃ b3, b3 = w3.heap.size := ⟨_, rfl⟩
    obtain ⟨w4, hw4⟩ : ∃ w4, w4 = w3.alloc (.cells #[.int .u8 (x.kind : Int), .string (tx x.text), .slice a1 x.l.len d1, .slice a2 x.body.len d2, .slice a3 x.els.len d3] TN) := ⟨_, rfl⟩
    rw [← hw4] at hb
    have hNS : NS w3 TN (fun b => c < b ∧ b < b3) _ x := hN.ns fun b q1 q2 => by have := X2.out.1.lt; omega
    have X4 := Lib.hid (And.intro hb.1 (And.intro (hb3 ▸ hb.2.1) (And.intro (h3.later hb.2.2) (And.intro (NS.later hNS hb.2.2) (And.intro hrd (show c < b3 by have := X2.out.1.lt; have := hs3.size; omega))))))
    clear hb hs3 h3 hN hNS hrd
    go_upto_region 6 with fail
    rw [← hw4, ← hb3]
    clear hw4 hb3
    go_wp2_with fail
    by_cases hh : q.head? = some [94]
    · obtain ⟨q', rfl⟩ := head_form hh
      refine takes_yes X4.out.2.2.1 (by decide) fun w5 hs5 h5 => ?_
      have hrb := X4.out.1.hrb
      have hcb := X4.out.2.2.2.2.2
      have R5 := X4.out.1.step hs5
      have row5' := (hs5.kept (heap_lt X4.out.2.1) (by omega)).trans X4.out.2.1
      have N5 := NS.over X4.out.2.2.2.1 hs5 (fun b hb => by omega)
      obtain ⟨x0, x1, x2, x3, x4, e0, e1, e2, e3, e4⟩ := row5 row5'
      have X5 := Lib.hid (And.intro R5 (And.intro h5 (And.intro row5' (NS.mono (U := fun b => c < b ∧ b < b3) N5 fun b hb _ => hb.1))))
      clear hs5 h5 R5 row5' N5 hh hrb hcb
      go_upto_region 7 with fail
      have HAFT := Lib.hid (fun (w6 : World) (hs6 : Step w5.drew w6 (some rb)) => ((hs6.kept (c := b3) (heap_lt X5.out.2.2.1) (by have := X5.out.1.hrb; have := X4.out.2.2.2.2.2; omega)).trans X5.out.2.2.1))
      go_region_law (first
        | (go_simp; go_at_call 170; (refine bin_t X6.out.2.2.1 X6.out.2.2.2.1 X6.out.2.2.2.2.1 (s := [94]) (by decide) ?_); intro v7 w7 hb7 hN7; obtain ⟨p1, q1, p2, q2, p3, q3, rfl⟩ := hN7.form; have hrow7 := (hb7.block b3 (heap_lt X6.out.2.2.2.2.2)).trans X6.out.2.2.2.2.2; obtain ⟨x0'', x1'', x2'', x3'', x4'', g0'', g1'', g2'', g3'', g4''⟩ := row5 hrow7; have X7 := Lib.hid (And.intro hb7 (And.intro hN7 hrow7)); clear hb7 hN7 hrow7)
        | (go_simp; go_at_call 172; refine (rnum_t (X5.out.2.1.later (Below.refl _ w5).drew)).mono ?_; rintro e w6 ⟨hs6, h6, hres⟩; cases hrd : number q'; rotate_left 1; (rename_i u; rw [hrd] at hres h6; subst hres; refine ⟨rfl, ?_⟩; rw [X4.out.2.2.2.2.1]; show Got w rb tv xs inn (sgPow x ([94] :: q')) _ _; rw [sgPow_yes, hrd]; exact ((X5.out.1.below (Below.refl _ w5).drew).step hs6).bad h6); rename_i y u; rw [hrd] at hres h6; obtain ⟨v6, rfl, hN6⟩ := hres; obtain ⟨o1, i1, o2, i2, o3, i3, rfl⟩ := hN6.form; have hrow6 := HAFT.out w6 hs6; obtain ⟨x0', x1', x2', x3', x4', g0', g1', g2', g3', g4'⟩ := row5 hrow6; have X6 := Lib.hid (show Step w5.drew w6 (some rb) ∧ (number q' = .ok y u ∧ Rd w6 rb tv xs u inn) ∧ NS w6 TN (fun b => (c < b ∧ b < b3) ∧ b < w5.drew.heap.size) (.agg #[.int .u8 (x.kind : Int), .string (tx x.text), .slice a1 x.l.len d1, .slice a2 x.body.len d2, .slice a3 x.els.len d3]) x ∧ NS w6 TN (fun b => w5.drew.heap.size ≤ b) (.agg #[.int .u8 (y.kind : Int), .string (tx y.text), .slice o1 y.l.len i1, .slice o2 y.body.len i2, .slice o3 y.els.len i3]) y ∧ (∀ b, ((c < b ∧ b < b3) ∧ b < w5.drew.heap.size) → w5.drew.heap.size ≤ b → False) ∧ w6.heap[b3]? = some (.cells #[.int .u8 (x.kind : Int), .string (tx x.text), .slice a1 x.l.len d1, .slice a2 x.body.len d2, .slice a3 x.els.len d3] TN (0, 0)) from ⟨hs6, ⟨hrd, h6⟩, NS.over (NS.later X5.out.2.2.2 (Below.refl _ w5).drew) hs6 (fun b hb => by have := X4.out.1.hrb; omega), hN6.ns (fun b h1 _ => h1), fun b h1 h2 => by omega, hrow6⟩); clear hs6 h6 hN6 hrd hrow6))
      all_goals
        have hp7 := put5 X7.out.2.2 (.int .u8 ((bin [94] x y).kind : Int)) (.string (tx (bin [94] x y).text)) (.slice p1 (bin [94] x y).l.len q1) (.slice p2 (bin [94] x y).body.len q2) (.slice p3 (bin [94] x y).els.len q3)
        have R7 := ((X5.out.1.below (Below.refl _ w5).drew).step X6.out.1).below X7.out.1
        have R8 := R7.put hp7 X4.out.2.2.2.2.2
        have h8 := (X6.out.2.1.2.later X7.out.1).put hp7 (by have := X4.out.2.2.2.2.2; have := X4.out.1.hrb; omega)
        have b1 : b3 < w5.drew.heap.size := heap_lt X5.out.2.2.1
        have b2 := X6.out.1.size
        have b4 := X4.out.2.2.2.2.2
        have N8 := NS.frame (NS.mono (U := fun b => c < b ∧ b ≠ b3) X7.out.2.1 fun b hb _ => by
          rcases hb with h | h | h
          · exact ⟨h.1.1, by omega⟩
          · exact ⟨by omega, by omega⟩
          · exact ⟨by omega, by omega⟩) (fun b hb _ => hp7.oth b hb.2)
        have hrow8 := hp7.row
        obtain ⟨w8, hw8⟩ : ∃ w8, w8 = ((((w7.setCell ⟨b3, 0, none⟩ (.int .u8 ((bin [94] x y).kind : Int))).setCell ⟨b3, 1, none⟩ (.string (tx (bin [94] x y).text))).setCell ⟨b3, 2, none⟩ (.slice p1 (bin [94] x y).l.len q1)).setCell ⟨b3, 3, none⟩ (.slice p2 (bin [94] x y).body.len q2)).setCell ⟨b3, 4, none⟩ (.slice p3 (bin [94] x y).els.len q3) := ⟨_, rfl⟩
        rw [← hw8] at R8 h8 N8 hrow8 ⊢
        obtain ⟨z0, z1, z2, z3, z4, _, _, _, _, _⟩ := row5 hrow8
        obtain ⟨y0, y1, y2, y3, y4, f0, f1, f2, f3, f4⟩ := row5 R8.row
        have X8 := Lib.hid (And.intro R8 (And.intro h8 (And.intro N8 X6.out.2.1.1)))
        clear hw8 hp7 R7 R8 h8 N8 hrow8 b1 b2 b4 x0 x1 x2 x3 x4 x0' x1' x2' x3' x4' x0'' x1'' x2'' x3'' x4'' e0 e1 e2 e3 e4 g0' g1' g2' g3' g4' g0'' g1'' g2'' g3'' g4''
        generalize hbn : bin [94] x y = z at *
        have HBN := Lib.hid hbn
        clear hbn X7 X6
        go_wp2_with fail
        have hp := put5 X8.out.1.row (.int .u8 (z.kind : Int)) (.string (tx z.text)) (.slice p1 z.l.len q1) (.slice p2 z.body.len q2) (.slice p3 z.els.len q3)
        refine bodyPost_ret (results_cell1 rfl _ _ _ rfl (nodeVar _ c _ _ _ _ _ hp.row)) rfl ?_
        rw [X4.out.2.2.2.2.1]
        show Got w rb tv xs inn (sgPow x ([94] :: q')) _ _
        rw [sgPow_yes, X8.out.2.2.2]
        show Got w rb tv xs inn (.ok (bin [94] x y) u) _ _
        rw [HBN.out]
        exact X8.out.1.fin X8.out.2.1 X8.out.2.2.1 (fun _ h => h.1) hp
    · refine takes_no X4.out.2.2.1 [94] (by decide) hh fun w5 hb5 => ?_
      have R5 := X4.out.1.below hb5
      have row5' := (hb5.block _ (heap_lt X4.out.2.1)).trans X4.out.2.1
      obtain ⟨x0, x1, x2, x3, x4, _, _, _, _, _⟩ := row5 row5'
      obtain ⟨y0, y1, y2, y3, y4, g0, g1, g2, g3, g4⟩ := row5 R5.row
      have X5 := Lib.hid (And.intro R5 (And.intro (X4.out.2.2.1.later hb5) (And.intro hh (NS.later X4.out.2.2.2.1 hb5))))
      clear hb5 R5 row5' hh
      go_wp2_with fail
      have hp := put5 X5.out.1.row (.int .u8 (x.kind : Int)) (.string (tx x.text)) (.slice a1 x.l.len d1) (.slice a2 x.body.len d2) (.slice a3 x.els.len d3)
      refine bodyPost_ret (results_cell1 rfl _ _ _ rfl (nodeVar _ c _ _ _ _ _ hp.row)) rfl ?_
      rw [X4.out.2.2.2.2.1]
      show Got w rb tv xs inn (sgPow x q) _ _
      rw [sgPow_no x q X5.out.2.2.1]
      exact X5.out.1.fin X5.out.2.1 X5.out.2.2.2 (fun _ h => h.1) hp

/-- What has signs ahead, however many tokens there are. -/
theorem signed_r {rb : Nat} {tv : Value} {xs : List To.T} {inn : Bool} : ∀ n, Reads 162 #[.pointer (some ⟨rb, 0, none⟩)] rb tv xs inn (fun _ => True) n sg := by
  have step : ∀ n (ts : List Tx) (w : World), ts.length ≤ n → (∀ r s, ts = s :: r → Reads 162 #[.pointer (some ⟨rb, 0, none⟩)] rb tv xs inn (fun _ => True) r.length sg) → Rd w rb tv xs ts inn → Calls Tryz.prog 162 #[.pointer (some ⟨rb, 0, none⟩)] w (Got w rb tv xs inn (sg ts)) := by
    intro n ts w hn ih h
    cases ts with
    | nil =>
      exact signed_atom (n := 0) (fun w' us hu _ h' => by
        have : us = [] := List.eq_nil_of_length_eq_zero (by omega)
        subst this
        exact atom_num (by simp) (by simp) (by decide) h') (Nat.zero_le _) (by simp) (by simp) h
    | cons s r =>
      have hs := ih r s rfl
      rw [sg_cons]
      by_cases h1 : s = [45]
      · subst h1; rw [if_pos rfl]; exact signed_neg hs (Nat.le_refl _) h
      · rw [if_neg h1]
        by_cases h2 : s = [110, 111, 116]
        · subst h2; rw [if_pos rfl]; exact signed_not hs (Nat.le_refl _) h
        · rw [if_neg h2]
          exact signed_atom (n := r.length + 1) (atom_r (expr_r hs)) (by simp) (by simpa using h1) (by simpa using h2) h
  intro n
  induction n with
  | zero =>
    intro w ts hn _ h
    have : ts = [] := List.eq_nil_of_length_eq_zero (by omega)
    subst this
    exact step 0 [] w (Nat.le_refl _) (fun r s e => by cases e) h
  | succ n ih =>
    intro w ts hn _ h
    refine step (n + 1) ts w hn (fun r s e => ?_) h
    subst e
    intro w' us hu hK h'
    exact ih w' us (by rw [List.length_cons] at hn; omega) hK h'
/-- AN EXPRESSION. -/
theorem expr_t {rb : Nat} {tv : Value} {xs : List To.T} {inn : Bool} {w : World} {ts : List Tx} (h : Rd w rb tv xs ts inn) : Calls Tryz.prog 150 #[.pointer (some ⟨rb, 0, none⟩)] w (Got w rb tv xs inn (expr ts)) :=
  expr_r (signed_r ts.length) w ts (Nat.le_refl _) trivial h
end Go.Proofs.YtcldcigopkfmmaaGreatDoor

/- Trees: the reader: an expression and what ends it; tell, return; a block. -/
namespace Go.Proofs.YtcldcigopkfmmaaGreatDoor
open Go.RowKit Go.My Go.Nd

set_option maxRecDepth 100000 in
set_option maxHeartbeats 2000000 in
theorem ends_t {rb : Nat} {tv : Value} {xs : List To.T} {inn : Bool} {w : World} {ts : List Tx} (k : Nat) (hk : k < 256) (h : Rd w rb tv xs ts inn) :
    Calls Tryz.prog 137 #[.pointer (some ⟨rb, 0, none⟩), .int .u8 (k : Int)] w (Got w rb tv xs inn (ends k [] ts)) := by
  have R0 := RA.start h.lt
  have h0 := h.later (Put.new w #[.int .u8 0, .string ⟨#[]⟩, .slice none 0 0, .slice none 0 0, .slice none 0 0] TN).1
  obtain ⟨c, hc⟩ : ∃ c, c = w.heap.size := ⟨_, rfl⟩
  obtain ⟨wA, hwA⟩ : ∃ wA, wA = w.alloc (.cells #[.int .u8 0, .string ⟨#[]⟩, .slice none 0 0, .slice none 0 0, .slice none 0 0] TN) := ⟨_, rfl⟩
  rw [← hwA] at R0 h0
  rw [← hc] at R0
  have X0 := Lib.hid (And.intro R0 h0)
  clear h R0 h0
  have HK := Lib.hid hk
  clear hk
  go_enter Tryz.func137, Tryz.ntmps137
  go_upto_region 1 with fail
  rw [← hwA, ← hc]
  clear hwA hc
  go_wp2_with fail
  refine (expr_t X0.out.2).mono ?_
  rintro e w1 ⟨hs1, h1, hres⟩
  cases hrd : expr ts with
  | bad q =>
    rw [hrd] at hres h1
    subst hres
    have X1 := Lib.hid (And.intro (X0.out.1.step hs1) (And.intro h1 hrd))
    clear hs1 h1 hrd
    go_wp2_with fail
    refine ⟨rfl, ?_⟩
    unfold ends
    rw [X1.out.2.2]
    exact X1.out.1.bad X1.out.2.1
  | ok x q =>
    rw [hrd] at hres h1
    obtain ⟨v, rfl, hN⟩ := hres
    obtain ⟨a1, d1, a2, d2, a3, d3, rfl⟩ := hN.form
    have hL := LR.one hN hs1.size (Nat.le_refl _)
    obtain ⟨b4, hb4⟩ : ∃ b4, b4 = w1.heap.size := ⟨_, rfl⟩
    have hb2 := (X0.out.1.step hs1).box #[.int .u8 (x.kind : Int), .string (tx x.text), .slice a1 x.l.len d1, .slice a2 x.body.len d2, .slice a3 x.els.len d3]
    have hz2 := (Put.new w1 #[.int .u8 (x.kind : Int), .string (tx x.text), .slice a1 x.l.len d1, .slice a2 x.body.len d2, .slice a3 x.els.len d3] TN).2.2
    obtain ⟨w2, hw2⟩ : ∃ w2, w2 = w1.alloc (.cells #[.int .u8 (x.kind : Int), .string (tx x.text), .slice a1 x.l.len d1, .slice a2 x.body.len d2, .slice a3 x.els.len d3] TN) := ⟨_, rfl⟩
    rw [← hw2] at hL hb2 hz2
    obtain ⟨b5, hb5⟩ : ∃ b5, b5 = b4 + 1 := ⟨_, rfl⟩
    have hb3 := hb2.1.box #[.int .u8 (k : Int), .string ⟨#[]⟩, .slice (some ⟨b4, 0, none⟩) 1 1, .slice none 0 0, .slice none 0 0]
    obtain ⟨w3, hw3⟩ : ∃ w3, w3 = w2.alloc (.cells #[.int .u8 (k : Int), .string ⟨#[]⟩, .slice (some ⟨b4, 0, none⟩) 1 1, .slice none 0 0, .slice none 0 0] TN) := ⟨_, rfl⟩
    rw [← hw3, hz2, ← hb4, ← hb5] at hb3
    have hN3 : NR w2 TN wA.heap.size w2.heap.size (.agg #[.int .u8 (k : Int), .string (tx []), .slice (some ⟨b4, 0, none⟩) 1 1, .slice none 0 0, .slice none 0 0]) ⟨k, [], Ns.of [x], .nil, .nil⟩ := NR.mk HK.out (by decide) (hz2 ▸ hb4 ▸ hL) (LR.nil _ _ _ _) (LR.nil _ _ _ w2.heap.size) (by have := hs1.size; omega) (Nat.le_refl _) (Nat.le_refl _)
    have hB3 := hb3.2.2
    rw [hb5, hb4, ← hz2] at hB3
    have hN4 := NS.later (hN3.ns (S := fun b => c < b ∧ b < b5) fun b q1 q2 => by have := X0.out.1.lt; omega) hB3
    have X3 := Lib.hid (And.intro hb3.1 (And.intro hb3.2.1 (And.intro ((h1.later hb2.2.2).later hB3) (And.intro hN4 (And.intro hrd (show c < b5 by have := X0.out.1.lt; have := hs1.size; omega))))))
    clear hL hb2 hz2 hb3 hN3 hN4 hB3 hs1 h1 hN hrd
    go_upto_region 2 with fail
    rw [← hw2, ← hb4, ← hw3, ← hb5]
    clear hw2 hb4 hb5 hw3
    go_wp2_with fail
    by_cases hh : q.head? = some [59]
    · obtain ⟨q', rfl⟩ := head_form hh
      refine takes_yes X3.out.2.2.1 (by decide) fun w4 hs4 h4 => ?_
      have hrb := X3.out.1.hrb
      have hcb := X3.out.2.2.2.2.2
      have R4 := X3.out.1.step hs4
      have row4 := (hs4.kept (heap_lt X3.out.2.1) (by omega)).trans X3.out.2.1
      have N4 := NS.over X3.out.2.2.2.1 hs4 (fun b hb => by omega)
      obtain ⟨x0, x1, x2, x3, x4, _, _, _, _, _⟩ := row5 row4
      obtain ⟨y0, y1, y2, y3, y4, g0, g1, g2, g3, g4⟩ := row5 R4.row
      have X4 := Lib.hid (And.intro R4 (And.intro h4 N4))
      clear hs4 h4 R4 row4 N4 hh hrb hcb
      go_wp2_with (refine must_yes ?_)
      have hp := put5 X4.out.1.row (.int .u8 (k : Int)) (.string ⟨#[]⟩) (.slice (some ⟨b4, 0, none⟩) 1 1) (.slice none 0 0) (.slice none 0 0)
      refine bodyPost_ret (results_cell1 rfl _ _ _ rfl (nodeVar _ c _ _ _ _ _ hp.row)) rfl ?_
      unfold ends
      rw [X3.out.2.2.2.2.1]
      show Got w rb tv xs inn (must [59] (⟨k, [], Ns.of [x], .nil, .nil⟩ : Nd) ([59] :: q')) _ _
      rw [show must [59] (⟨k, [], Ns.of [x], .nil, .nil⟩ : Nd) ([59] :: q') = .ok ⟨k, [], Ns.of [x], .nil, .nil⟩ q' by unfold must; simp only; rw [if_pos trivial]]
      exact X4.out.1.fin (x := ⟨k, [], Ns.of [x], .nil, .nil⟩) X4.out.2.1 X4.out.2.2 (fun _ h => h.1.1) hp
    · refine takes_no X3.out.2.2.1 [59] (by decide) hh fun w4 hb4 => ?_
      have X4 := Lib.hid (And.intro hh hb4)
      clear hh hb4
      go_wp2_with (refine must_no ?_)
      refine ⟨rfl, ?_⟩
      unfold ends
      rw [X3.out.2.2.2.2.1]
      show Got w rb tv xs inn (must [59] (⟨k, [], Ns.of [x], .nil, .nil⟩ : Nd) q) _ _
      rw [show must [59] (⟨k, [], Ns.of [x], .nil, .nil⟩ : Nd) q = .bad q by
        cases q with
        | nil => rfl
        | cons s q' => unfold must; simp only; rw [if_neg (by intro e; subst e; exact X4.out.1 rfl)]]
      exact (X3.out.1.below X4.out.2).bad (X3.out.2.2.1.later X4.out.2)

set_option maxRecDepth 100000 in
set_option maxHeartbeats 2000000 in
theorem tell_t {rb : Nat} {tv : Value} {xs : List To.T} {inn : Bool} {w : World} {ts : List Tx} (h : Rd w rb tv xs ts inn) :
    Calls Tryz.prog 134 #[.pointer (some ⟨rb, 0, none⟩)] w (Got w rb tv xs inn (ends 12 [] ts)) := by
  have R0 := RA.start h.lt
  have h0 := h.later (Put.new w #[.int .u8 0, .string ⟨#[]⟩, .slice none 0 0, .slice none 0 0, .slice none 0 0] TN).1
  obtain ⟨c, hc⟩ : ∃ c, c = w.heap.size := ⟨_, rfl⟩
  obtain ⟨wA, hwA⟩ : ∃ wA, wA = w.alloc (.cells #[.int .u8 0, .string ⟨#[]⟩, .slice none 0 0, .slice none 0 0, .slice none 0 0] TN) := ⟨_, rfl⟩
  rw [← hwA] at R0 h0
  rw [← hc] at R0
  have X0 := Lib.hid (And.intro R0 h0)
  clear h R0 h0
  go_enter Tryz.func134, Tryz.ntmps134
  go_upto_region 1 with fail
  rw [← hwA, ← hc]
  clear hwA hc
  go_wp2_with fail
  refine (ends_t 12 (by decide) X0.out.2).mono ?_
  rintro e w4 ⟨hs4, h4, hres⟩
  have R4 := X0.out.1.step hs4
  cases hrd : ends 12 [] ts with
  | bad q =>
    rw [hrd] at hres h4
    subst hres
    have X4 := Lib.hid (And.intro R4 (And.intro h4 hrd))
    clear hs4 h4 hrd R4
    go_wp2_with fail
    refine ⟨rfl, ?_⟩
    first | rw [X4.out.2.2] | skip
    exact X4.out.1.bad X4.out.2.1
  | ok x q =>
    rw [hrd] at hres h4
    obtain ⟨v, rfl, hN⟩ := hres
    obtain ⟨a1, d1, a2, d2, a3, d3, rfl⟩ := hN.form
    obtain ⟨y0, y1, y2, y3, y4, g0, g1, g2, g3, g4⟩ := row5 R4.row
    have X4 := Lib.hid (And.intro R4 (And.intro h4 (And.intro hrd (NR.past X0.out.1 hN))))
    clear hs4 h4 hrd R4 hN
    go_wp2_with fail
    have hp := put5 X4.out.1.row (.int .u8 (x.kind : Int)) (.string (tx x.text)) (.slice a1 x.l.len d1) (.slice a2 x.body.len d2) (.slice a3 x.els.len d3)
    refine bodyPost_ret (results_cell1 rfl _ _ _ rfl (nodeVar _ c _ _ _ _ _ hp.row)) rfl ?_
    first | rw [X4.out.2.2.1] | skip
    exact X4.out.1.fin X4.out.2.1 X4.out.2.2.2 (fun _ h => h) hp

set_option maxRecDepth 100000 in
set_option maxHeartbeats 2000000 in
theorem answer_t {rb : Nat} {tv : Value} {xs : List To.T} {inn : Bool} {w : World} {ts : List Tx} (h : Rd w rb tv xs ts inn) :
    Calls Tryz.prog 135 #[.pointer (some ⟨rb, 0, none⟩)] w (Got w rb tv xs inn (ends 11 [] ts)) := by
  have R0 := RA.start h.lt
  have h0 := h.later (Put.new w #[.int .u8 0, .string ⟨#[]⟩, .slice none 0 0, .slice none 0 0, .slice none 0 0] TN).1
  obtain ⟨c, hc⟩ : ∃ c, c = w.heap.size := ⟨_, rfl⟩
  obtain ⟨wA, hwA⟩ : ∃ wA, wA = w.alloc (.cells #[.int .u8 0, .string ⟨#[]⟩, .slice none 0 0, .slice none 0 0, .slice none 0 0] TN) := ⟨_, rfl⟩
  rw [← hwA] at R0 h0
  rw [← hc] at R0
  have X0 := Lib.hid (And.intro R0 h0)
  clear h R0 h0
  go_enter Tryz.func135, Tryz.ntmps135
  go_upto_region 1 with fail
  rw [← hwA, ← hc]
  clear hwA hc
  go_wp2_with fail
  refine (ends_t 11 (by decide) X0.out.2).mono ?_
  rintro e w4 ⟨hs4, h4, hres⟩
  have R4 := X0.out.1.step hs4
  cases hrd : ends 11 [] ts with
  | bad q =>
    rw [hrd] at hres h4
    subst hres
    have X4 := Lib.hid (And.intro R4 (And.intro h4 hrd))
    clear hs4 h4 hrd R4
    go_wp2_with fail
    refine ⟨rfl, ?_⟩
    first | rw [X4.out.2.2] | skip
    exact X4.out.1.bad X4.out.2.1
  | ok x q =>
    rw [hrd] at hres h4
    obtain ⟨v, rfl, hN⟩ := hres
    obtain ⟨a1, d1, a2, d2, a3, d3, rfl⟩ := hN.form
    obtain ⟨y0, y1, y2, y3, y4, g0, g1, g2, g3, g4⟩ := row5 R4.row
    have X4 := Lib.hid (And.intro R4 (And.intro h4 (And.intro hrd (NR.past X0.out.1 hN))))
    clear hs4 h4 hrd R4 hN
    go_wp2_with fail
    have hp := put5 X4.out.1.row (.int .u8 (x.kind : Int)) (.string (tx x.text)) (.slice a1 x.l.len d1) (.slice a2 x.body.len d2) (.slice a3 x.els.len d3)
    refine bodyPost_ret (results_cell1 rfl _ _ _ rfl (nodeVar _ c _ _ _ _ _ hp.row)) rfl ?_
    first | rw [X4.out.2.2.1] | skip
    exact X4.out.1.fin X4.out.2.1 X4.out.2.2.2 (fun _ h => h) hp
end Go.Proofs.YtcldcigopkfmmaaGreatDoor

/- Trees: the reader: a block of statements. -/
namespace Go.Proofs.YtcldcigopkfmmaaGreatDoor
open Go.RowKit Go.My Go.Nd

structure BlkSt (w : World) (rb : Nat) (tv : Value) (xs : List To.T) (inn : Bool) (n m : Nat) (tail : List Tx → R (List Nd)) (tot : R (List Nd)) (l : List Nd) (ts : List Tx) (v : Value) (wr : World) : Prop where
  plain : (tail ts).map (l ++ ·) = tot
  len : ts.length ≤ n
  many : l.length + ts.length ≤ m
  step : Step w wr (some rb)
  rd : Rd wr rb tv xs ts inn
  list : LR wr TN w.heap.size wr.heap.size v (Ns.of l)
def BlkAt (w : World) (rb : Nat) (tv : Value) (xs : List To.T) (inn : Bool) (n m : Nat) (tail : List Tx → R (List Nd)) (tot : R (List Nd)) (gk : Nat) (v : Value) (wr : World) : Prop :=
  ∃ l ts, gk = ts.length ∧ BlkSt w rb tv xs inn n m tail tot l ts v wr

/-- A node appended to a list of the call's own. -/
theorem BlkSt.more {w : World} {rb : Nat} {tv : Value} {xs : List To.T} {inn : Bool} {n m : Nat} {tail : List Tx → R (List Nd)} {tot : R (List Nd)} {l : List Nd} {r q : List Tx} {x : Nd} {v v' : Value} {wr w4 w6 : World} (h : BlkSt w rb tv xs inn n m tail tot l r v wr) (htl : tail r = (tail q).map (x :: ·)) (hq : q.length < r.length)
    (s4 : Step wr w4 (some rb)) (h4 : Rd w4 rb tv xs q inn) (hrb : rb < w.heap.size) (hb : Below w.heap.size w4 w6) (hL : LR w6 TN w.heap.size w6.heap.size v' (Ns.of (l ++ [x]))) : BlkSt w rb tv xs inn n m tail tot (l ++ [x]) q v' w6 := by
  have h1 := h.len
  have h2 := h.many
  have st6 : Step w w6 (some rb) := ⟨hb.os.trans (s4.os.trans h.step.os), hb.tape.trans (s4.tape.trans h.step.tape), hb.output.trans (s4.output.trans h.step.output), Nat.le_trans h.step.size (Nat.le_trans s4.size hb.size), fun k hk hk' => (hb.block k hk).trans ((s4.block k (Nat.lt_of_lt_of_le hk h.step.size) hk').trans (h.step.block k hk hk'))⟩
  refine ⟨?_, by omega, by rw [List.length_append, List.length_singleton]; omega, st6, h4.keep hb.size fun k hk => hb.block k (by omega), hL⟩
  rw [← h.plain, htl, R.map_map]
  congr 1
  funext a
  simp

theorem block_no {st : List Tx → R Nd} (ts : List Tx) (h : ts.head? ≠ some [123]) : block st ts = .bad ts := by
  cases ts with
  | nil => rfl
  | cons s r => unfold block; simp only; rw [if_neg (by intro e; subst e; exact h rfl)]
theorem block_yes {st : List Tx → R Nd} (r : List Tx) : block st ([123] :: r) = stmtsT st r := by unfold block; simp only; rw [if_pos trivial]; rfl
theorem stmtsT_none {st : List Tx → R Nd} (h : st [] = .bad []) : stmtsT st [] = .bad [] := by unfold stmtsT stmtsTo; simp only; rw [h]; rfl
theorem stm_none (inner : Bool) : stm inner [] = .bad [] := by rw [stm_nil]; rfl

set_option maxRecDepth 100000 in
set_option maxHeartbeats 4000000 in
theorem block_r {rb : Nat} {tv : Value} {xs : List To.T} {inn : Bool} {n : Nat} (hst : Reads 99 #[.pointer (some ⟨rb, 0, none⟩)] rb tv xs inn (fun _ => True) n (stm inn)) {w : World} {ts : List Tx} (hn : ts.length ≤ n + 1) (h : Rd w rb tv xs ts inn) :
    Calls Tryz.prog 131 #[.pointer (some ⟨rb, 0, none⟩)] w (GotL w rb tv xs inn (block (stm inn) ts)) := by
  have hrb := h.lt
  have hle := h.le
  have hlen := h.len
  have H := Lib.hid (And.intro h (And.intro hn (And.intro hrb (And.intro hle (And.intro hlen hst)))))
  clear h hn hst hrb hle hlen
  go_enter Tryz.func131, Tryz.ntmps131
  go_wp2_with fail
  by_cases hh : ts.head? = some [123]
  · obtain ⟨r, rfl⟩ := head_form hh
    refine takes_yes H.out.1 (by decide) fun w1 hs1 h1 => ?_
    have hst : BlkSt w rb tv xs inn n r.length (stmtsT (stm inn)) (stmtsT (stm inn) r) [] r (.slice none 0 0) w1 :=
      ⟨by cases stmtsT (stm inn) r <;> rfl, by have := H.out.2.1; rw [List.length_cons] at this; omega, by simp, hs1, h1, LR.nil _ _ _ _⟩
    have HS := Lib.hid hst
    have HL := Lib.hid (show r.length ≤ 65536 by have := H.out.2.2.2.1; have := H.out.2.2.2.2.1; rw [List.length_cons] at *; omega)
    clear hs1 h1 hh hst
    go_wp2_with (refine must_yes ?_)
    go_loopg [2] r.length (fun gk v2 wr => BlkAt w rb tv xs inn n r.length (stmtsT (stm inn)) (stmtsT (stm inn) r) gk v2 wr)
    case atStart => exact ⟨[], r, rfl, HS.out⟩
    case round =>
      obtain ⟨l, ts1, rfl, hst⟩ := hrel
      obtain ⟨lo1, lc1, rfl⟩ := hst.list.form
      have HT := Lib.hid hst
      clear hst HS
      go_wp2_with fail
      by_cases hh : ts1.head? = some [125]
      · obtain ⟨r1, rfl⟩ := head_form hh
        refine takes_yes HT.out.rd (by decide) fun w4 hs4 h4 => ?_
        have X4 := Lib.hid (And.intro hs4 h4)
        clear hs4 h4 hh
        go_wp2_with fail
        go_ret
        have hpl := HT.out.plain
        rw [stmtsT_end] at hpl
        rw [block_yes, ← hpl]
        show GotL w rb tv xs inn (.ok (l ++ []) r1) _ _
        rw [List.append_nil]
        exact ⟨HT.out.step.trans X4.out.1, X4.out.2, _, rfl, LR.mono (LR.stepped HT.out.list X4.out.1 H.out.2.2.1 (Nat.le_refl _)) (Nat.le_refl _) X4.out.1.size⟩
      · refine takes_no HT.out.rd [125] (by decide) hh fun w4 hb4 => ?_
        have HH := Lib.hid hh
        have X4 := Lib.hid hb4
        clear hh hb4
        go_wp2_with fail
        refine (H.out.2.2.2.2.2 w4 ts1 HT.out.len trivial (HT.out.rd.later X4.out)).mono ?_
        rintro e w6 ⟨hs6, h6, hres⟩
        have st6 := (Step.of_below (row := some rb) X4.out).trans hs6
        cases hrd : stm inn ts1 with
        | bad q =>
          rw [hrd] at hres h6
          subst hres
          have X6 := Lib.hid (And.intro st6 (And.intro h6 hrd))
          clear st6 h6 hs6 hrd
          go_wp2_with fail
          refine ⟨rfl, ?_⟩
          have hb : stmtsT (stm inn) ts1 = .bad q := by
            cases ts1 with
            | nil => rw [stmtsT_none (stm_none _)]; have := X6.out.2.2; rw [stm_none] at this; cases this; rfl
            | cons s r1 => rw [stmtsT_more (stm_down inn) _ HH.out (by simp), X6.out.2.2]; rfl
          rw [block_yes, ← HT.out.plain, hb]
          exact ⟨HT.out.step.trans X6.out.1, X6.out.2.1, rfl⟩
        | ok y q =>
          rw [hrd] at hres h6
          obtain ⟨vy, rfl, hN⟩ := hres
          obtain ⟨o1, e1, o2, e2, o3, e3, rfl⟩ := hN.form
          have hA := (Put.new w6 #[.int .u8 (y.kind : Int), .string (tx y.text), .slice o1 y.l.len e1, .slice o2 y.body.len e2, .slice o3 y.els.len e3] TN)
          have hN7 := hN.later hA.1 (Nat.le_refl _)
          have hL7 := (LR.stepped HT.out.list st6 H.out.2.2.1 (Nat.le_refl _)).later hA.1 st6.size
          have hq := (stm_down inn ts1).lt hrd
          have htl : stmtsT (stm inn) ts1 = (stmtsT (stm inn) q).map (y :: ·) := by
            rw [stmtsT_more (stm_down inn) _ HH.out (by intro e; subst e; simp at hq), hrd]; rfl
          have X6 := Lib.hid (And.intro st6 (And.intro h6 (And.intro htl (And.intro hA (And.intro hN7 (And.intro hL7 (And.intro X4.out.size (And.intro hs6 hq))))))))
          have hm : (l.length + 1) * 96 ≤ 140737488351232 := by have := HT.out.many; have := HL.out; omega
          have HM := Lib.hid hm
          rw [Ns.len_of]
          clear st6 h6 hs6 hrd hN hA hN7 hL7 hm htl hq
          go_wp2_with (at_builtin; refine wpList_node _ rfl (.tmp 9) (.tmp 12) rfl nodeEl (v := .slice lo1 l.length lc1) (l := l) (lo := w.heap.size) (hi := wr.heap.size) (hi2 := w6.heap.size) rfl (by have := X6.out.2.2.2.2.2.1; rw [Ns.len_of] at this; exact this) (X6.out.2.2.2.2.1.mono X6.out.2.2.2.2.2.2.1 (Nat.le_refl _)) (y := .slice (some ⟨w6.heap.size, 0, none⟩) 1 1) rfl (Src.lit #[.int .u8 (y.kind : Int), .string (tx y.text), .slice o1 y.l.len e1, .slice o2 y.body.len e2, .slice o3 y.els.len e3] TN rfl rfl) HT.out.step.size X6.out.1.size (by rw [X6.out.2.2.2.1.2.2]; omega) HM.out ?_; intro ao cp w7 hL hB; have X7 := Lib.hid (And.intro hL hB); clear hL hB)
          go_roundg q.length
          case measure => exact X6.out.2.2.2.2.2.2.2.2
          case rel => exact ⟨l ++ [y], q, rfl, HT.out.more X6.out.2.2.1 X6.out.2.2.2.2.2.2.2.2 X6.out.1 X6.out.2.1 H.out.2.2.1 ((X6.out.2.2.2.1.1.mono (Nat.le_trans HT.out.step.size X6.out.1.size)).trans X7.out.2) X7.out.1⟩
  · refine takes_no H.out.1 [123] (by decide) hh fun w1 hb1 => ?_
    have X1 := Lib.hid (And.intro hb1 hh)
    clear hh hb1
    go_wp2_with (refine must_no ?_)
    refine ⟨rfl, ?_⟩
    rw [block_no ts X1.out.2]
    exact ⟨Step.of_below X1.out.1, H.out.1.later X1.out.1, rfl⟩
end Go.Proofs.YtcldcigopkfmmaaGreatDoor

/- Trees: the reader: while and if. -/
namespace Go.Proofs.YtcldcigopkfmmaaGreatDoor
open Go.RowKit Go.My Go.Nd

/-- Blocks are read, where so many tokens are left at most. -/
def ReadsB (rb : Nat) (tv : Value) (xs : List To.T) (inn : Bool) (n : Nat) : Prop :=
  ∀ (w : World) (ts : List Tx), ts.length ≤ n → Rd w rb tv xs ts inn → Calls Tryz.prog 131 #[.pointer (some ⟨rb, 0, none⟩)] w (GotL w rb tv xs inn (block (stm inn) ts))

theorem LR.kept {w w' : World} {rb lo hi : Nat} {v : Value} {l : Ns} (h : LR w TN lo hi v l) (hs : Step w w' (some rb)) (hrb : rb < lo) (hh : hi ≤ w.heap.size) : LR w' TN lo hi v l :=
  LR.frame h fun b h1 h2 => hs.kept (by omega) (by omega)

set_option maxRecDepth 100000 in
set_option maxHeartbeats 4000000 in
theorem loop_r {rb : Nat} {tv : Value} {xs : List To.T} {inn : Bool} {n : Nat} (hbl : ReadsB rb tv xs inn n) {w : World} {ts : List Tx} (hn : ts.length ≤ n) (h : Rd w rb tv xs ts inn) :
    Calls Tryz.prog 133 #[.pointer (some ⟨rb, 0, none⟩)] w (Got w rb tv xs inn (loop inn ts)) := by
  have R0 := RA.start h.lt
  have h0 := h.later (Put.new w #[.int .u8 0, .string ⟨#[]⟩, .slice none 0 0, .slice none 0 0, .slice none 0 0] TN).1
  obtain ⟨c, hc⟩ : ∃ c, c = w.heap.size := ⟨_, rfl⟩
  obtain ⟨wA, hwA⟩ : ∃ wA, wA = w.alloc (.cells #[.int .u8 0, .string ⟨#[]⟩, .slice none 0 0, .slice none 0 0, .slice none 0 0] TN) := ⟨_, rfl⟩
  rw [← hwA] at R0 h0
  rw [← hc] at R0
  have X0 := Lib.hid (And.intro R0 h0)
  clear h R0 h0
  have HE := Lib.hid (And.intro hbl hn)
  clear hbl hn
  go_enter Tryz.func133, Tryz.ntmps133
  go_upto_region 1 with fail
  rw [← hwA, ← hc]
  clear hwA hc
  go_wp2_with fail
  refine (expr_t X0.out.2).mono ?_
  rintro e w1 ⟨hs1, h1, hres⟩
  cases hrd : expr ts with
  | bad q =>
    rw [hrd] at hres h1
    subst hres
    have X1 := Lib.hid (And.intro (X0.out.1.step hs1) (And.intro h1 hrd))
    clear hs1 h1 hrd
    go_wp2_with fail
    refine ⟨rfl, ?_⟩
    unfold loop
    rw [X1.out.2.2]
    exact X1.out.1.bad X1.out.2.1
  | ok x q =>
    rw [hrd] at hres h1
    obtain ⟨v, rfl, hN⟩ := hres
    obtain ⟨a1, d1, a2, d2, a3, d3, rfl⟩ := hN.form
    have hL := LR.one hN hs1.size (Nat.le_refl _)
    have hA := Put.new w1 #[.int .u8 (x.kind : Int), .string (tx x.text), .slice a1 x.l.len d1, .slice a2 x.body.len d2, .slice a3 x.els.len d3] TN
    obtain ⟨b2, hb2⟩ : ∃ b2, b2 = w1.heap.size := ⟨_, rfl⟩
    obtain ⟨w2, hw2⟩ : ∃ w2, w2 = w1.alloc (.cells #[.int .u8 (x.kind : Int), .string (tx x.text), .slice a1 x.l.len d1, .slice a2 x.body.len d2, .slice a3 x.els.len d3] TN) := ⟨_, rfl⟩
    rw [← hw2] at hL hA
    have hq := (expr_down ts).lt hrd
    have X1 := Lib.hid (And.intro (X0.out.1.step (hs1.trans (Step.of_below hA.1))) (And.intro (h1.later hA.1) (And.intro (show LR w2 TN wA.heap.size w2.heap.size (.slice (some ⟨b2, 0, none⟩) 1 1) (Ns.of [x]) from hA.2.2 ▸ hb2 ▸ hL) (And.intro (Nat.le_trans hs1.size hA.1.size) (And.intro hrd (show q.length ≤ n by have := HE.out.2; omega))))))
    clear hs1 h1 hL hA hN hq hrd
    go_wp2_with fail
    rw [← hw2, ← hb2]
    clear hw2 hb2
    refine (HE.out.1 w2 q X1.out.2.2.2.2.2 X1.out.2.1).mono ?_
    rintro e w3 ⟨hs3, h3, hres⟩
    cases hrd : block (stm inn) q with
    | bad u =>
      rw [hrd] at hres h3
      subst hres
      have X3 := Lib.hid (And.intro (X1.out.1.step hs3) (And.intro h3 hrd))
      clear hs3 h3 hrd
      go_wp2_with fail
      refine ⟨rfl, ?_⟩
      unfold loop
      rw [X1.out.2.2.2.2.1]
      show Got w rb tv xs inn (R.map _ (block (stm inn) q)) _ _
      rw [X3.out.2.2]
      exact X3.out.1.bad X3.out.2.1
    | ok l u =>
      rw [hrd] at hres h3
      obtain ⟨v, rfl, hM⟩ := hres
      obtain ⟨m1, e1, rfl⟩ := hM.form
      have hrb : rb < wA.heap.size := Nat.lt_trans X0.out.1.hrb X0.out.1.lt
      have hN3 : NR w3 TN wA.heap.size w3.heap.size (.agg #[.int .u8 ((10 : Nat) : Int), .string (tx []), .slice (some ⟨b2, 0, none⟩) 1 1, .slice m1 (Ns.of l).len e1, .slice none 0 0]) ⟨10, [], Ns.of [x], Ns.of l, .nil⟩ := NR.mk (by decide) (by decide) (LR.kept X1.out.2.2.1 hs3 hrb (Nat.le_refl _)) hM (LR.nil _ _ _ w3.heap.size) X1.out.2.2.2.1 hs3.size (Nat.le_refl _)
      have R3 := X1.out.1.step hs3
      obtain ⟨y0, y1, y2, y3, y4, g0, g1, g2, g3, g4⟩ := row5 R3.row
      have X3 := Lib.hid (And.intro R3 (And.intro h3 (And.intro hrd (NR.past X0.out.1 hN3))))
      clear hs3 h3 hrd R3 hN3 hM hrb
      go_wp2_with fail
      have hp := put5 X3.out.1.row (.int .u8 10) (.string ⟨#[]⟩) (.slice (some ⟨b2, 0, none⟩) 1 1) (.slice m1 (Ns.of l).len e1) (.slice none 0 0)
      refine bodyPost_ret (results_cell1 rfl _ _ _ rfl (nodeVar _ c _ _ _ _ _ hp.row)) rfl ?_
      unfold loop
      rw [X1.out.2.2.2.2.1]
      show Got w rb tv xs inn (R.map _ (block (stm inn) q)) _ _
      rw [X3.out.2.2.1]
      exact X3.out.1.fin (x := ⟨10, [], Ns.of [x], Ns.of l, .nil⟩) X3.out.2.1 X3.out.2.2.2 (fun _ h => h) hp

/-- Behind an if's first block. -/
def ifTail (inner : Bool) (x : Nd) (b : List Nd) (r2 : List Tx) : R Nd := match r2 with
  | [] => .ok ⟨9, [], Ns.of [x], Ns.of b, .nil⟩ []
  | p :: r3 => if p = [101, 108, 115, 101] then (block (stm inner) r3).map fun e => ⟨9, [], Ns.of [x], Ns.of b, Ns.of e⟩ else .ok ⟨9, [], Ns.of [x], Ns.of b, .nil⟩ (p :: r3)
theorem branch_is (inner : Bool) (ts : List Tx) : branch inner ts = (expr ts).then_ fun x r1 => (block (stm inner) r1).then_ fun b r2 => ifTail inner x b r2 := rfl
theorem ifTail_no (inner : Bool) (x : Nd) (b : List Nd) (r : List Tx) (h : r.head? ≠ some [101, 108, 115, 101]) : ifTail inner x b r = .ok ⟨9, [], Ns.of [x], Ns.of b, .nil⟩ r := by
  cases r with
  | nil => rfl
  | cons p r' => unfold ifTail; simp only; rw [if_neg (by intro e; subst e; exact h rfl)]
theorem ifTail_yes (inner : Bool) (x : Nd) (b : List Nd) (r : List Tx) : ifTail inner x b ([101, 108, 115, 101] :: r) = (block (stm inner) r).map fun e => ⟨9, [], Ns.of [x], Ns.of b, Ns.of e⟩ := by unfold ifTail; simp only; rw [if_pos trivial]

set_option maxRecDepth 100000 in
set_option maxHeartbeats 4000000 in
theorem branch_r {rb : Nat} {tv : Value} {xs : List To.T} {inn : Bool} {n : Nat} (hbl : ReadsB rb tv xs inn n) {w : World} {ts : List Tx} (hn : ts.length ≤ n) (h : Rd w rb tv xs ts inn) :
    Calls Tryz.prog 132 #[.pointer (some ⟨rb, 0, none⟩)] w (Got w rb tv xs inn (branch inn ts)) := by
  have R0 := RA.start h.lt
  have h0 := h.later (Put.new w #[.int .u8 0, .string ⟨#[]⟩, .slice none 0 0, .slice none 0 0, .slice none 0 0] TN).1
  obtain ⟨c, hc⟩ : ∃ c, c = w.heap.size := ⟨_, rfl⟩
  obtain ⟨wA, hwA⟩ : ∃ wA, wA = w.alloc (.cells #[.int .u8 0, .string ⟨#[]⟩, .slice none 0 0, .slice none 0 0, .slice none 0 0] TN) := ⟨_, rfl⟩
  rw [← hwA] at R0 h0
  rw [← hc] at R0
  have X0 := Lib.hid (And.intro R0 h0)
  clear h R0 h0
  have HE := Lib.hid (And.intro hbl hn)
  clear hbl hn
  go_enter Tryz.func132, Tryz.ntmps132
  go_upto_region 1 with fail
  rw [← hwA, ← hc]
  clear hwA hc
  go_wp2_with fail
  refine (expr_t X0.out.2).mono ?_
  rintro e w1 ⟨hs1, h1, hres⟩
  cases hrd : expr ts with
  | bad q =>
    rw [hrd] at hres h1
    subst hres
    have X1 := Lib.hid (And.intro (X0.out.1.step hs1) (And.intro h1 hrd))
    clear hs1 h1 hrd
    go_wp2_with fail
    refine ⟨rfl, ?_⟩
    rw [branch_is, X1.out.2.2]
    exact X1.out.1.bad X1.out.2.1
  | ok x q =>
    rw [hrd] at hres h1
    obtain ⟨v, rfl, hN⟩ := hres
    obtain ⟨a1, d1, a2, d2, a3, d3, rfl⟩ := hN.form
    have hL := LR.one hN hs1.size (Nat.le_refl _)
    have hA := Put.new w1 #[.int .u8 (x.kind : Int), .string (tx x.text), .slice a1 x.l.len d1, .slice a2 x.body.len d2, .slice a3 x.els.len d3] TN
    obtain ⟨b2, hb2⟩ : ∃ b2, b2 = w1.heap.size := ⟨_, rfl⟩
    obtain ⟨w2, hw2⟩ : ∃ w2, w2 = w1.alloc (.cells #[.int .u8 (x.kind : Int), .string (tx x.text), .slice a1 x.l.len d1, .slice a2 x.body.len d2, .slice a3 x.els.len d3] TN) := ⟨_, rfl⟩
    rw [← hw2] at hL hA
    have hq := (expr_down ts).lt hrd
    have X1 := Lib.hid (And.intro (X0.out.1.step (hs1.trans (Step.of_below hA.1))) (And.intro (h1.later hA.1) (And.intro (show LR w2 TN wA.heap.size w2.heap.size (.slice (some ⟨b2, 0, none⟩) 1 1) (Ns.of [x]) from hA.2.2 ▸ hb2 ▸ hL) (And.intro (Nat.le_trans hs1.size hA.1.size) (And.intro hrd (show q.length ≤ n by have := HE.out.2; omega))))))
    clear hs1 h1 hL hA hN hq hrd
    go_wp2_with fail
    rw [← hw2, ← hb2]
    clear hw2 hb2
    refine (HE.out.1 w2 q X1.out.2.2.2.2.2 X1.out.2.1).mono ?_
    rintro e w3 ⟨hs3, h3, hres⟩
    cases hrd : block (stm inn) q with
    | bad u =>
      rw [hrd] at hres h3
      subst hres
      have X3 := Lib.hid (And.intro (X1.out.1.step hs3) (And.intro h3 hrd))
      clear hs3 h3 hrd
      go_wp2_with fail
      refine ⟨rfl, ?_⟩
      rw [branch_is, X1.out.2.2.2.2.1]
      show Got w rb tv xs inn ((block (stm inn) q).then_ _) _ _
      rw [X3.out.2.2]
      exact X3.out.1.bad X3.out.2.1
    | ok l u =>
      rw [hrd] at hres h3
      obtain ⟨v, rfl, hM⟩ := hres
      obtain ⟨m1, e1, rfl⟩ := hM.form
      have hrb : rb < wA.heap.size := Nat.lt_trans X0.out.1.hrb X0.out.1.lt
      have hL3 := LR.kept X1.out.2.2.1 hs3 hrb (Nat.le_refl _)
      have hb := (X1.out.1.step hs3).box #[.int .u8 9, .string ⟨#[]⟩, .slice (some ⟨b2, 0, none⟩) 1 1, .slice m1 (Ns.of l).len e1, .slice none 0 0]
      obtain ⟨b4, hb4⟩ : ∃ b4, b4 = w3.heap.size := ⟨_, rfl⟩
      obtain ⟨w4, hw4⟩ : ∃ w4, w4 = w3.alloc (.cells #[.int .u8 9, .string ⟨#[]⟩, .slice (some ⟨b2, 0, none⟩) 1 1, .slice m1 (Ns.of l).len e1, .slice none 0 0] TN) := ⟨_, rfl⟩
      rw [← hw4] at hb
      have hu := (block_down (stm_down inn) q).lt hrd
      have X3 := Lib.hid (And.intro hb.1 (And.intro (hb4 ▸ hb.2.1) (And.intro (h3.later hb.2.2) (And.intro hrd (And.intro (show c < b4 by have := X1.out.1.lt; have := hs3.size; omega) (And.intro (hL3.later hb.2.2 hs3.size) (And.intro (hM.later hb.2.2 (Nat.le_refl _)) (show u.length ≤ n by have := X1.out.2.2.2.2.2; omega))))))))
      have HZ := Lib.hid (And.intro hs3.size (And.intro hb4 hb.2.2.size))
      clear hs3 h3 hrd hM hL3 hb hu hrb
      go_upto_region 2 with fail
      rw [← hw4, ← hb4]
      clear hw4 hb4
      go_wp2_with fail
      by_cases hh : u.head? = some [101, 108, 115, 101]
      · obtain ⟨u', rfl⟩ := head_form hh
        refine takes_yes X3.out.2.2.1 (by decide) fun w5 hs5 h5 => ?_
        have hrbA : rb < wA.heap.size := Nat.lt_trans X0.out.1.hrb X0.out.1.lt
        have hcb := X3.out.2.2.2.2.1
        have hw24 : w2.heap.size ≤ w4.heap.size := Nat.le_trans HZ.out.1 HZ.out.2.2
        have X5 := Lib.hid (And.intro (X3.out.1.step hs5) (And.intro h5 (And.intro ((hs5.kept (heap_lt X3.out.2.1) (by have := X3.out.1.hrb; omega)).trans X3.out.2.1) (And.intro (LR.kept X3.out.2.2.2.2.2.1 hs5 hrbA hw24) (And.intro (LR.kept X3.out.2.2.2.2.2.2.1 hs5 (by have := X1.out.2.2.2.1; omega) HZ.out.2.2) hs5.size)))))
        clear hs5 h5 hh hrbA hcb hw24
        go_wp2_with fail
        refine (HE.out.1 w5 u' (by have := X3.out.2.2.2.2.2.2.2; rw [List.length_cons] at this; omega) X5.out.2.1).mono ?_
        rintro e w6 ⟨hs6, h6, hres⟩
        cases hrd : block (stm inn) u' with
        | bad t =>
          rw [hrd] at hres h6
          subst hres
          have X6 := Lib.hid (And.intro (X5.out.1.step hs6) (And.intro h6 hrd))
          clear hs6 h6 hrd
          go_wp2_with fail
          refine ⟨rfl, ?_⟩
          rw [branch_is, X1.out.2.2.2.2.1]
          show Got w rb tv xs inn ((block (stm inn) q).then_ _) _ _
          rw [X3.out.2.2.2.1]
          show Got w rb tv xs inn (ifTail inn x l ([101, 108, 115, 101] :: u')) _ _
          rw [ifTail_yes, X6.out.2.2]
          exact X6.out.1.bad X6.out.2.1
        | ok l2 t =>
          rw [hrd] at hres h6
          obtain ⟨v, rfl, hM6⟩ := hres
          obtain ⟨m2, e2, rfl⟩ := hM6.form
          have hrbA : rb < wA.heap.size := Nat.lt_trans X0.out.1.hrb X0.out.1.lt
          have hcb := X3.out.2.2.2.2.1
          have hz24 : w2.heap.size ≤ w4.heap.size := Nat.le_trans HZ.out.1 HZ.out.2.2
          have R6 := X5.out.1.step hs6
          have row6 := (hs6.kept (heap_lt X5.out.2.2.1) (by have := X3.out.1.hrb; omega)).trans X5.out.2.2.1
          obtain ⟨x0, x1, x2, x3, x4, f0, f1, f2, f3, f4⟩ := row5 row6
          have hp1 : Put w6 (w6.setCell ⟨b4, 4, none⟩ (.slice m2 (Ns.of l2).len e2)) b4 #[.int .u8 9, .string ⟨#[]⟩, .slice (some ⟨b2, 0, none⟩) 1 1, .slice m1 (Ns.of l).len e1, .slice m2 (Ns.of l2).len e2] TN := Put.one row6 4 _
          obtain ⟨w7, hw7⟩ : ∃ w7, w7 = w6.setCell ⟨b4, 4, none⟩ (.slice m2 (Ns.of l2).len e2) := ⟨_, rfl⟩
          rw [← hw7] at hp1
          have hsz := hp1.size
          have z3 := HZ.out.1
          have z4 := X5.out.2.2.2.2.2
          have hbz := HZ.out.2.1
          have L1 : LR w7 TN wA.heap.size w2.heap.size (.slice (some ⟨b2, 0, none⟩) 1 1) (Ns.of [x]) := LR.frame (LR.kept X5.out.2.2.2.1 hs6 hrbA (by omega)) fun b q1 q2 => hp1.oth b (by omega)
          have L2 : LR w7 TN w2.heap.size w3.heap.size (.slice m1 (Ns.of l).len e1) (Ns.of l) := LR.frame (LR.kept X5.out.2.2.2.2.1 hs6 (by have := X1.out.2.2.2.1; omega) (by have := HZ.out.2.2; omega)) fun b q1 q2 => hp1.oth b (by omega)
          have hb4lt := heap_lt X5.out.2.2.1
          have L3 : LR w7 TN w5.heap.size w6.heap.size (.slice m2 (Ns.of l2).len e2) (Ns.of l2) := LR.frame hM6 fun b q1 q2 => hp1.oth b (by omega)
          have hN7 : NR w7 TN wA.heap.size w7.heap.size (.agg #[.int .u8 ((9 : Nat) : Int), .string (tx []), .slice (some ⟨b2, 0, none⟩) 1 1, .slice m1 (Ns.of l).len e1, .slice m2 (Ns.of l2).len e2]) ⟨9, [], Ns.of [x], Ns.of l, Ns.of l2⟩ :=
            NR.mk (by decide) (by decide) L1 L2 (L3.mono (show w3.heap.size ≤ w5.heap.size by have := HZ.out.2.2; omega) (by omega)) X1.out.2.2.2.1 z3 (by have := HZ.out.2.2; have := hs6.size; omega)
          have R7 := R6.put hp1 hcb
          obtain ⟨z0', z1', z2', z3', z4', _, _, _, _, _⟩ := row5 hp1.row
          obtain ⟨y0, y1, y2, y3, y4, g0, g1, g2, g3, g4⟩ := row5 R7.row
          have X7 := Lib.hid (And.intro R7 (And.intro (h6.put hp1 (by have := X3.out.1.hrb; omega)) (And.intro (NR.past X0.out.1 hN7) hrd)))
          clear hs6 h6 hrd hM6 hrbA hcb hz24 R6 row6 hp1 hsz z3 z4 hbz L1 L2 hb4lt L3 hN7 R7
          go_upto_region 4 with fail
          rw [← hw7]
          clear hw7 x0 x1 x2 x3 x4 f0 f1 f2 f3 f4
          go_wp2_with fail
          have hp := put5 X7.out.1.row (.int .u8 9) (.string ⟨#[]⟩) (.slice (some ⟨b2, 0, none⟩) 1 1) (.slice m1 (Ns.of l).len e1) (.slice m2 (Ns.of l2).len e2)
          refine bodyPost_ret (results_cell1 rfl _ _ _ rfl (nodeVar _ c _ _ _ _ _ hp.row)) rfl ?_
          rw [branch_is, X1.out.2.2.2.2.1]
          show Got w rb tv xs inn ((block (stm inn) q).then_ _) _ _
          rw [X3.out.2.2.2.1]
          show Got w rb tv xs inn (ifTail inn x l ([101, 108, 115, 101] :: u')) _ _
          rw [ifTail_yes, X7.out.2.2.2]
          exact X7.out.1.fin (x := ⟨9, [], Ns.of [x], Ns.of l, Ns.of l2⟩) X7.out.2.1 X7.out.2.2.1 (fun _ h => h) hp
      · refine takes_no X3.out.2.2.1 [101, 108, 115, 101] (by decide) hh fun w5 hb5 => ?_
        have R5 := X3.out.1.below hb5
        have row5' := (hb5.block _ (heap_lt X3.out.2.1)).trans X3.out.2.1
        obtain ⟨x0, x1, x2, x3, x4, _, _, _, _, _⟩ := row5 row5'
        obtain ⟨y0, y1, y2, y3, y4, g0, g1, g2, g3, g4⟩ := row5 R5.row
        have hN5 : NR w5 TN wA.heap.size w5.heap.size (.agg #[.int .u8 ((9 : Nat) : Int), .string (tx []), .slice (some ⟨b2, 0, none⟩) 1 1, .slice m1 (Ns.of l).len e1, .slice none 0 0]) ⟨9, [], Ns.of [x], Ns.of l, .nil⟩ :=
          NR.mk (by decide) (by decide) (LR.later X3.out.2.2.2.2.2.1 hb5 (Nat.le_trans HZ.out.1 HZ.out.2.2)) (LR.later X3.out.2.2.2.2.2.2.1 hb5 HZ.out.2.2) (LR.nil _ _ _ w5.heap.size) X1.out.2.2.2.1 HZ.out.1 (Nat.le_trans HZ.out.2.2 hb5.size)
        have X5 := Lib.hid (And.intro R5 (And.intro (X3.out.2.2.1.later hb5) (And.intro hh (NR.past X0.out.1 hN5))))
        clear hb5 R5 row5' hh hN5
        go_wp2_with fail
        have hp := put5 X5.out.1.row (.int .u8 9) (.string ⟨#[]⟩) (.slice (some ⟨b2, 0, none⟩) 1 1) (.slice m1 (Ns.of l).len e1) (.slice none 0 0)
        refine bodyPost_ret (results_cell1 rfl _ _ _ rfl (nodeVar _ c _ _ _ _ _ hp.row)) rfl ?_
        rw [branch_is, X1.out.2.2.2.2.1]
        show Got w rb tv xs inn ((block (stm inn) q).then_ _) _ _
        rw [X3.out.2.2.2.1]
        show Got w rb tv xs inn (ifTail inn x l u) _ _
        rw [ifTail_no inn x l u X5.out.2.2.1]
        exact X5.out.1.fin (x := ⟨9, [], Ns.of [x], Ns.of l, .nil⟩) X5.out.2.1 X5.out.2.2.2 (fun _ h => h) hp
end Go.Proofs.YtcldcigopkfmmaaGreatDoor

/- A map with keys of an integer kind that the call itself keeps in one block: what it holds, as a function of the key; its elements stay values. No program in sight. -/
namespace Go.My
open Go.RowKit Go.Maps

/-- An element stays the value that it is: a datum that no other value has. -/
def selfElem (v : Value) : Option (DataW Value × List MemPlace) := some (.held v, [])

/-- Block b is a map, of n entries at most, that holds at each key what f says. -/
def MapIs (P : Program) (k : TypeId) (q : IntKind) (w : World) (b n : Nat) (f : Int → Option Value) : Prop :=
  ∃ D : DataW Value, w.ownsMap P k selfElem b n D ∧ IsMap D ∧ ∀ i : Int, (Lit.int q i).wf = true → (has D (.int q i) = (f i).isSome ∧ ∀ u, f i = some u → ∀ z, D.atKey (.int q i) z = .held u)

section
variable {P : Program} {k : TypeId} {q : IntKind} {w : World} {b n : Nat} {f : Int → Option Value}

theorem MapIs.made (w : World) (P : Program) (k : TypeId) (q : IntKind) : MapIs P k q (w.alloc (.map #[] 0)) w.heap.size 0 (fun _ => none) :=
  ⟨.map [], World.ownsMap_made w P k selfElem, isMap_empty, fun i _ => ⟨rfl, fun u h => by cases h⟩⟩

theorem MapIs.lt (h : MapIs P k q w b n f) : b < w.heap.size := by obtain ⟨D, h, _⟩ := h; exact h.lt

theorem MapIs.mono (h : MapIs P k q w b n f) {m : Nat} (hm : n ≤ m) : MapIs P k q w b m f := by obtain ⟨D, h, r⟩ := h; exact ⟨D, h.mono hm, r⟩

theorem MapIs.frame {w' : World} (h : MapIs P k q w b n f) (hb : w'.heap[b]? = w.heap[b]?) : MapIs P k q w' b n f := by
  obtain ⟨D, ⟨es, clock, h1, h2⟩, r⟩ := h
  exact ⟨D, ⟨es, clock, hb.trans h1, h2⟩, r⟩

/-- 'v, ok := m[k]', where it is. -/
theorem MapIs.look_some {t e : TypeId} (h : MapIs P k q w b n f) (hk : P.underlying k = some (.int q)) (ht : P.underlying t = some (.map k e)) {z : Value} (hz : (zeroValue e).run P w = .ok z w) {i : Int} (hi : (Lit.int q i).wf = true) {u : Value} (hu : f i = some u) :
    (Instr.lookup t (.map (some b)) (.int q i) true).run P w = .ok (.tuple #[u, .bool true]) w := by
  obtain ⟨D, h, hm, hf⟩ := h
  obtain ⟨h1, h2⟩ := hf i hi
  obtain ⟨v, ps, hrun, hv⟩ := h.look_ok (R := selfElem) (int_keyed hk) ht hz (zd := .held z) (zp := []) rfl (keyOf_int_mk hk hi)
  rw [h1, hu] at hrun
  rw [h2 u hu] at hv
  simp only [selfElem, Option.some.injEq, Prod.mk.injEq, DataW.held.injEq] at hv
  rw [hv.1] at hrun
  exact hrun

/-- .. and where it is not. -/
theorem MapIs.look_none {t e : TypeId} (h : MapIs P k q w b n f) (hk : P.underlying k = some (.int q)) (ht : P.underlying t = some (.map k e)) {z : Value} (hz : (zeroValue e).run P w = .ok z w) {i : Int} (hi : (Lit.int q i).wf = true) (hu : f i = none) :
    (Instr.lookup t (.map (some b)) (.int q i) true).run P w = .ok (.tuple #[z, .bool false]) w := by
  obtain ⟨D, h, hm, hf⟩ := h
  obtain ⟨h1, h2⟩ := hf i hi
  obtain ⟨v, ps, hrun, hv⟩ := h.look_ok (R := selfElem) (int_keyed hk) ht hz (zd := .held z) (zp := []) rfl (keyOf_int_mk hk hi)
  rw [h1, hu] at hrun
  rw [atKey_of_not_has (by rw [h1, hu]; rfl)] at hv
  simp only [selfElem, Option.some.injEq, Prod.mk.injEq, DataW.held.injEq] at hv
  rw [hv.1] at hrun
  exact hrun

theorem lit_ne {q : IntKind} {i j : Int} (h : i ≠ j) : (Lit.int q i) ≠ (Lit.int q j) := fun e => h (by cases e; rfl)

/-- 'm[k] = v'. -/
theorem MapIs.store {t e : TypeId} (h : MapIs P k q w b n f) (hk : P.underlying k = some (.int q)) (ht : P.underlying t = some (.map k e)) (hn : n < maxLen) {i : Int} (hi : (Lit.int q i).wf = true) (u : Value) :
    ∃ w', (Instr.mapUpdate t (.map (some b)) (.int q i) u).run P w = .ok () w' ∧ MapIs P k q w' b (n + 1) (fun j => if j = i then some u else f j) ∧ w.grownBy w' (some b) := by
  obtain ⟨D, h, hm, hf⟩ := h
  obtain ⟨w', hrun, h1, h2⟩ := h.store (R := selfElem) (int_keyed hk) ht hn (keyOf_int_mk hk hi) (val := u) (d := .held u) (ps := []) rfl
  refine ⟨w', hrun, ⟨_, h1, hm.put _ _, fun j hj => ?_⟩, h2.grown⟩
  by_cases e : j = i
  · subst e
    have hkl : WideAt.IsKeyLit (Lit.int q j) := by simp [WideAt.IsKeyLit]
    simp only [if_true, Option.isSome_some]
    exact ⟨has_put_same hm hkl _, fun v hv z => by cases hv; exact atKey_put_same hm hkl _ _⟩
  · simp only [if_neg e]
    obtain ⟨g1, g2⟩ := hf j hj
    exact ⟨by rw [has_put_other (lit_ne e)]; exact g1, fun v hv z => by rw [atKey_put_other (lit_ne e)]; exact g2 v hv z⟩

/-- 'delete(m, k)'. -/
theorem MapIs.drop {t e : TypeId} (h : MapIs P k q w b n f) (hk : P.underlying k = some (.int q)) (ht : P.underlying t = some (.map k e)) {i : Int} (hi : (Lit.int q i).wf = true) (ty : TypeId) :
    ∃ w', (Builtin.delete_ #[t, k] ty #[.map (some b), .int q i]).run P w = .ok (.tuple #[]) w' ∧ MapIs P k q w' b n (fun j => if j = i then none else f j) ∧ w.grownBy w' (some b) := by
  obtain ⟨D, h, hm, hf⟩ := h
  obtain ⟨w', hrun, h1, h2⟩ := h.drop (R := selfElem) (int_keyed hk) ht (keyOf_int_mk hk hi) ty
  refine ⟨w', hrun, ⟨_, h1, hm.del _, fun j hj => ?_⟩, h2.grown⟩
  by_cases e : j = i
  · subst e
    simp only [if_true]
    exact ⟨has_del_same, fun v hv => by cases hv⟩
  · simp only [if_neg e]
    obtain ⟨g1, g2⟩ := hf j hj
    exact ⟨by rw [has_del_other (lit_ne e)]; exact g1, fun v hv z => by rw [atKey_del_other (lit_ne e)]; exact g2 v hv z⟩
end

/-- DELETE, AS ONE STEP OF A REGION THAT DRAWS ITS ORDER. -/
theorem step_delete {P : Program} {w w1 : World} {ops : Array Oper} {o : Oper} {a : Act} {K : Act → World → Prop} {Q : Exit → Act → World → Prop} {X : Prop} (hgd : o.guard = none) (m x : Operand) {t k : TypeId}
    (ho : o.op = .call { callee := .builtin .delete, args := #[m, x], argTypes := #[t, k] }) {v y : Value} (hm : a.eval m = v) (hx : a.eval x = y) (hrun : (Builtin.delete_ #[t, k] o.type #[v, y]).run P w = .ok (.tuple #[]) w1)
    (h : K (a.put o.dst (.tuple #[])) w1) : if Region.wanted o (yielded ops a.tmps) = true then Oper.wp P o a w K Q else X := by
  have hw : Region.wanted o (yielded ops a.tmps) = true := by simp [Region.wanted, hgd]
  rw [if_pos hw]
  unfold Oper.wp execOp
  simp only [ho, resolve, invoke, builtin, Sem.run_bind, Sem.run_pure, Result.andThen_ok, List.map_toArray, List.map_cons, List.map_nil, hm, hx, hrun]
  exact h
end Go.My

/- A map with strings for keys that the call itself keeps in one block: what it holds, as a function of the key; its elements stay values. No program in sight. -/
namespace Go.Proofs.YtcldcigopkfmmaaGreatDoor
open Go.RowKit Go.Maps Go.My Go.WideMaps

/-- Block b is a map, of n entries at most, that holds at each string what f says. -/
def MapS (P : Program) (k : TypeId) (w : World) (b n : Nat) (f : List UInt8 → Option Value) : Prop :=
  ∃ D : DataW Value, w.ownsMap P k selfElem b n D ∧ IsMap D ∧ ∀ s : List UInt8, s.length ≤ maxLen → (has D (.string s) = (f s).isSome ∧ ∀ u, f s = some u → ∀ z, D.atKey (.string s) z = .held u)

section
variable {P : Program} {k : TypeId} {w : World} {b n : Nat} {f : List UInt8 → Option Value}

theorem MapS.made (w : World) (P : Program) (k : TypeId) : MapS P k (w.alloc (.map #[] 0)) w.heap.size 0 (fun _ => none) :=
  ⟨.map [], World.ownsMap_made w P k selfElem, isMap_empty, fun i _ => ⟨rfl, fun u h => by cases h⟩⟩
theorem MapS.lt (h : MapS P k w b n f) : b < w.heap.size := by obtain ⟨D, h, _⟩ := h; exact h.lt
theorem MapS.mono (h : MapS P k w b n f) {m : Nat} (hm : n ≤ m) : MapS P k w b m f := by obtain ⟨D, h, r⟩ := h; exact ⟨D, h.mono hm, r⟩
theorem MapS.frame {w' : World} (h : MapS P k w b n f) (hb : w'.heap[b]? = w.heap[b]?) : MapS P k w' b n f := by
  obtain ⟨D, ⟨es, clock, h1, h2⟩, r⟩ := h
  exact ⟨D, ⟨es, clock, hb.trans h1, h2⟩, r⟩

theorem keyOf_bs (hk : P.underlying k = some .string) {s : List UInt8} (hs : s.length ≤ maxLen) : keyOf P k (.string (bs s)) = some (.string s) := by
  have := keyOf_string_mk hk (s := bs s) (by rw [bs_size]; exact hs)
  rwa [bs_list] at this

/-- 'v, ok := m[k]', where it is. -/
theorem MapS.look_some {t e : TypeId} (h : MapS P k w b n f) (hk : P.underlying k = some .string) (ht : P.underlying t = some (.map k e)) {z : Value} (hz : (zeroValue e).run P w = .ok z w) {s : List UInt8} (hs : s.length ≤ maxLen) {u : Value} (hu : f s = some u) :
    (Instr.lookup t (.map (some b)) (.string (bs s)) true).run P w = .ok (.tuple #[u, .bool true]) w := by
  obtain ⟨D, h, hm, hf⟩ := h
  obtain ⟨h1, h2⟩ := hf s hs
  obtain ⟨v, ps, hrun, hv⟩ := h.look_ok (R := selfElem) (string_keyed hk) ht hz (zd := .held z) (zp := []) rfl (keyOf_bs hk hs)
  rw [h1, hu] at hrun
  rw [h2 u hu] at hv
  simp only [selfElem, Option.some.injEq, Prod.mk.injEq, DataW.held.injEq] at hv
  rw [hv.1] at hrun
  exact hrun
/-- .. and where it is not. -/
theorem MapS.look_none {t e : TypeId} (h : MapS P k w b n f) (hk : P.underlying k = some .string) (ht : P.underlying t = some (.map k e)) {z : Value} (hz : (zeroValue e).run P w = .ok z w) {s : List UInt8} (hs : s.length ≤ maxLen) (hu : f s = none) :
    (Instr.lookup t (.map (some b)) (.string (bs s)) true).run P w = .ok (.tuple #[z, .bool false]) w := by
  obtain ⟨D, h, hm, hf⟩ := h
  obtain ⟨h1, h2⟩ := hf s hs
  obtain ⟨v, ps, hrun, hv⟩ := h.look_ok (R := selfElem) (string_keyed hk) ht hz (zd := .held z) (zp := []) rfl (keyOf_bs hk hs)
  rw [h1, hu] at hrun
  rw [atKey_of_not_has (by rw [h1, hu]; rfl)] at hv
  simp only [selfElem, Option.some.injEq, Prod.mk.injEq, DataW.held.injEq] at hv
  rw [hv.1] at hrun
  exact hrun
/-- 'm[k]'. -/
theorem MapS.at {t e : TypeId} (h : MapS P k w b n f) (hk : P.underlying k = some .string) (ht : P.underlying t = some (.map k e)) {z : Value} (hz : (zeroValue e).run P w = .ok z w) {s : List UInt8} (hs : s.length ≤ maxLen) :
    (Instr.lookup t (.map (some b)) (.string (bs s)) false).run P w = .ok ((f s).getD z) w := by
  obtain ⟨D, h, hm, hf⟩ := h
  obtain ⟨h1, h2⟩ := hf s hs
  obtain ⟨v, ps, hrun, hv⟩ := h.lookup (R := selfElem) (string_keyed hk) ht hz (zd := .held z) (zp := []) rfl (keyOf_bs hk hs)
  cases hu : f s with
  | some u =>
    rw [h2 u hu] at hv
    simp only [selfElem, Option.some.injEq, Prod.mk.injEq, DataW.held.injEq] at hv
    rw [hv.1] at hrun
    exact hrun
  | none =>
    rw [atKey_of_not_has (by rw [h1, hu]; rfl)] at hv
    simp only [selfElem, Option.some.injEq, Prod.mk.injEq, DataW.held.injEq] at hv
    rw [hv.1] at hrun
    exact hrun

theorem str_ne {i j : List UInt8} (h : i ≠ j) : (Lit.string i) ≠ (Lit.string j) := fun e => h (by cases e; rfl)

/-- 'm[k] = v'. -/
theorem MapS.store {t e : TypeId} (h : MapS P k w b n f) (hk : P.underlying k = some .string) (ht : P.underlying t = some (.map k e)) (hn : n < maxLen) {s : List UInt8} (hs : s.length ≤ maxLen) (u : Value) :
    ∃ w', (Instr.mapUpdate t (.map (some b)) (.string (bs s)) u).run P w = .ok () w' ∧ MapS P k w' b (n + 1) (fun j => if j = s then some u else f j) ∧ w.grownBy w' (some b) := by
  obtain ⟨D, h, hm, hf⟩ := h
  obtain ⟨w', hrun, h1, h2⟩ := h.store (R := selfElem) (string_keyed hk) ht hn (keyOf_bs hk hs) (val := u) (d := .held u) (ps := []) rfl
  refine ⟨w', hrun, ⟨_, h1, hm.put _ _, fun j hj => ?_⟩, h2.grown⟩
  by_cases e : j = s
  · subst e
    have hkl : WideAt.IsKeyLit (Lit.string j) := by simp [WideAt.IsKeyLit]
    simp only [if_true, Option.isSome_some]
    exact ⟨has_put_same hm hkl _, fun v hv z => by cases hv; exact atKey_put_same hm hkl _ _⟩
  · simp only [if_neg e]
    obtain ⟨g1, g2⟩ := hf j hj
    exact ⟨by rw [has_put_other (str_ne e)]; exact g1, fun v hv z => by rw [atKey_put_other (str_ne e)]; exact g2 v hv z⟩
end
end Go.Proofs.YtcldcigopkfmmaaGreatDoor

/- Trees: the reader: a statement. -/
namespace Go.Proofs.YtcldcigopkfmmaaGreatDoor
open Go.RowKit Go.My Go.Nd

/-- A method of the reader as a value. -/
def rdFn (rb : Nat) (f : FuncId) : Value := .func (.func f) #[.pointer (some ⟨rb, 0, none⟩)] #[]
/-- Which words begin a statement of their own kind. -/
def rowsF (rb : Nat) (inn : Bool) (s : Tx) : Option Value :=
  if inn = true ∧ s = [114, 101, 116, 117, 114, 110] then some (rdFn rb 135)
  else if s = [116, 101, 108, 108] then some (rdFn rb 134)
  else if s = [119, 104, 105, 108, 101] then some (rdFn rb 133)
  else if s = [105, 102] then some (rdFn rb 132)
  else none

theorem grown_below {n : Nat} {w w1 w2 : World} {b : Nat} (hb : Below n w w1) (hg : w1.grownBy w2 (some b)) (h : n ≤ b) (hn : n ≤ w.heap.size) : Below n w w2 :=
  Below.grown hb hg (Nat.le_trans hn hb.size) (fun k e => by cases e; exact h)

theorem rows_built (wA : World) (rb : Nat) (inn : Bool) : ∃ w2 w3 w4 wM,
    (Instr.mapUpdate 181 (.map (some wA.heap.size)) (.string ⟨#[105, 102]⟩) (rdFn rb 132)).run Tryz.prog (wA.alloc (.map #[] 0)) = .ok () w2 ∧
    (Instr.mapUpdate 181 (.map (some wA.heap.size)) (.string ⟨#[119, 104, 105, 108, 101]⟩) (rdFn rb 133)).run Tryz.prog w2 = .ok () w3 ∧
    (Instr.mapUpdate 181 (.map (some wA.heap.size)) (.string ⟨#[116, 101, 108, 108]⟩) (rdFn rb 134)).run Tryz.prog w3 = .ok () w4 ∧
    (inn = true → (Instr.mapUpdate 181 (.map (some wA.heap.size)) (.string ⟨#[114, 101, 116, 117, 114, 110]⟩) (rdFn rb 135)).run Tryz.prog w4 = .ok () wM) ∧ (inn = false → wM = w4) ∧
    MapS Tryz.prog 9 wM wA.heap.size 4 (rowsF rb inn) ∧ Below wA.heap.size wA w4 ∧ Below wA.heap.size wA wM := by
  have m0 := MapS.made wA Tryz.prog 9
  have hA : Below wA.heap.size wA (wA.alloc (.map #[] 0)) := Below.alloc (Below.refl _ wA) (Nat.le_refl _) _
  have ht : Tryz.prog.underlying 181 = some (.map 9 75) := Tryz.underlying181
  obtain ⟨w2, r2, m2, g2⟩ := m0.store Tryz.underlying9 ht (by decide) (s := [105, 102]) (by decide) (rdFn rb 132)
  obtain ⟨w3, r3, m3, g3⟩ := m2.store Tryz.underlying9 ht (by decide) (s := [119, 104, 105, 108, 101]) (by decide) (rdFn rb 133)
  obtain ⟨w4, r4, m4, g4⟩ := m3.store Tryz.underlying9 ht (by decide) (s := [116, 101, 108, 108]) (by decide) (rdFn rb 134)
  have b2 := grown_below hA g2 (Nat.le_refl _) (Nat.le_refl _)
  have b3 := grown_below b2 g3 (Nat.le_refl _) (Nat.le_refl _)
  have b4 := grown_below b3 g4 (Nat.le_refl _) (Nat.le_refl _)
  cases inn with
  | false =>
    refine ⟨w2, w3, w4, w4, r2, r3, r4, (fun e => by cases e), fun _ => rfl, ?_, b4, b4⟩
    have e : rowsF rb false = fun j => if j = [116, 101, 108, 108] then some (rdFn rb 134) else if j = [119, 104, 105, 108, 101] then some (rdFn rb 133) else if j = [105, 102] then some (rdFn rb 132) else none := by
      funext j; unfold rowsF; rw [if_neg (by simp)]
    rw [e]
    exact m4.mono (by decide)
  | true =>
    obtain ⟨w5, r5, m5, g5⟩ := m4.store Tryz.underlying9 ht (by decide) (s := [114, 101, 116, 117, 114, 110]) (by decide) (rdFn rb 135)
    refine ⟨w2, w3, w4, w5, r2, r3, r4, fun _ => r5, (fun e => by cases e), ?_, b4, grown_below b4 g5 (Nat.le_refl _) (Nat.le_refl _)⟩
    have e : rowsF rb true = fun j => if j = [114, 101, 116, 117, 114, 110] then some (rdFn rb 135) else if j = [116, 101, 108, 108] then some (rdFn rb 134) else if j = [119, 104, 105, 108, 101] then some (rdFn rb 133) else if j = [105, 102] then some (rdFn rb 132) else none := by
      funext j; unfold rowsF; simp only [true_and]
    rw [e]
    exact m5.mono (by decide)

theorem rowsF_nil (rb : Nat) (inn : Bool) : rowsF rb inn [] = none := by unfold rowsF; simp
theorem func_neq (f : Fn) (a b : Array Value) (w : World) : (binOp .neq 75 (.func f a b) .nilFunc).run Tryz.prog w = .ok (.bool true) w := by kernel_rfl
theorem nil_neq (w : World) : (binOp .neq 75 .nilFunc .nilFunc).run Tryz.prog w = .ok (.bool false) w := by kernel_rfl
theorem map_at {w : World} {mb n : Nat} {rb : Nat} {inn : Bool} (h : MapS Tryz.prog 9 w mb n (rowsF rb inn)) {s : Tx} (hs : s.length ≤ 65536) : (Instr.lookup 181 (.map (some mb)) (.string (bs s)) false).run Tryz.prog w = .ok ((rowsF rb inn s).getD .nilFunc) w :=
  h.at Tryz.underlying9 Tryz.underlying181 (z := .nilFunc) (by kernel_rfl) (by unfold maxLen; omega)

set_option maxRecDepth 100000 in
set_option maxHeartbeats 4000000 in
/-- A statement that begins with a word of its own. -/
theorem stmt_row {rb : Nat} {tv : Value} {xs : List To.T} {inn : Bool} {f : FuncId} {s : Tx} {r : List Tx} {res : R Nd} (hrow : rowsF rb inn s = some (rdFn rb f)) (hcf : ∀ (wx : World), (callFunc f #[.pointer (some ⟨rb, 0, none⟩)]).run Tryz.prog wx = .ok (.enter f #[.pointer (some ⟨rb, 0, none⟩)]) wx)
    (hf : ∀ w, Rd w rb tv xs r inn → Calls Tryz.prog f #[.pointer (some ⟨rb, 0, none⟩)] w (Got w rb tv xs inn res)) {w : World} (h : Rd w rb tv xs (s :: r) inn) :
    Calls Tryz.prog 99 #[.pointer (some ⟨rb, 0, none⟩)] w (Got w rb tv xs inn res) := by
  have hsl : s.length ≤ 65536 := by obtain ⟨_, _, _, _, _, _, _, _, _, _, _, _, hs⟩ := h.token 0 (by simp); simpa using hs
  have HE := Lib.hid (And.intro hrow (And.intro hf hsl))
  clear hrow hf hsl
  have tT := tokText
  have R0 := RA.start h.lt
  have h0 := h.later (Put.new w #[.int .u8 0, .string ⟨#[]⟩, .slice none 0 0, .slice none 0 0, .slice none 0 0] TN).1
  obtain ⟨c, hc⟩ : ∃ c, c = w.heap.size := ⟨_, rfl⟩
  obtain ⟨wA, hwA⟩ : ∃ wA, wA = w.alloc (.cells #[.int .u8 0, .string ⟨#[]⟩, .slice none 0 0, .slice none 0 0, .slice none 0 0] TN) := ⟨_, rfl⟩
  rw [← hwA] at R0 h0
  rw [← hc] at R0
  have X0 := Lib.hid (And.intro R0 h0)
  clear h R0 h0
  obtain ⟨w2, w3, w4, wM, r2, r3, r4, r5, r5', hM, b4, bM⟩ := rows_built wA rb inn
  obtain ⟨mb, hmb⟩ : ∃ mb, mb = wA.heap.size := ⟨_, rfl⟩
  have XM := Lib.hid (And.intro (X0.out.1.below bM) (And.intro (X0.out.2.later bM) (hmb ▸ hM)))
  have c2 := (X0.out.2.later b4).cell.2.2.1
  rw [← hmb] at r2 r3 r4 r5
  unfold rdFn at r2 r3 r4 r5
  have hmk : (Instr.makeMap 181 none).run Tryz.prog wA = .ok (.map (some mb)) (wA.alloc (.map #[] 0)) := by rw [hmb]; rfl
  have R5 := Lib.hid (And.intro r5 r5')
  clear hM b4 bM r5 r5'
  go_enter Tryz.func99, Tryz.ntmps99
  go_upto_region 1 with fail
  rw [← hwA, ← hc]
  clear hwA hc hmb
  cases inn with
  | true =>
    have r5 := R5.out.1 rfl
    go_wp2_with fail
    clear r5
    refine look_t XM.out.2.1 0 (by decide) fun i j w5 hb5 => ?_
    rw [show (s :: r).getD 0 [] = s from rfl]
    have hlk := map_at (XM.out.2.2.frame (hb5.block mb XM.out.2.2.lt)) HE.out.2.2
    rw [HE.out.1] at hlk
    have h5 := XM.out.2.1.later hb5
    have hm := h5.one_more
    have hl := h5.len
    obtain ⟨_, c1, _, f1, _⟩ := h5.cell
    obtain ⟨q, hq⟩ : ∃ q, q = xs.length - (s :: r).length := ⟨_, rfl⟩
    obtain ⟨q', hq'⟩ : ∃ q', q' = xs.length - r.length := ⟨_, rfl⟩
    rw [← hq, ← hq'] at hm
    rw [← hq] at c1
    have q0 : (0 : Int) ≤ (q : Int) := by omega
    have q1 : (q : Int) < 65536 := by omega
    have X5 := Lib.hid (And.intro (XM.out.1.below hb5) (And.intro h5 (And.intro hq' hm)))
    unfold rdFn at hlk
    simp only [Option.getD_some] at hlk
    have hne := func_neq (.func f) #[.pointer (some ⟨rb, 0, none⟩)] #[] w5
    clear hb5 h5 hq hq' hm r2 r3 r4 hmk
    go_wp2_with fail
    have hp := X5.out.2.1.put1
    have R6 := X5.out.1.step hp.step
    have h6 := X5.out.2.1.next hp
    rw [← X5.out.2.2.1, ← X5.out.2.2.2] at R6 h6
    have X6 := Lib.hid (And.intro R6 h6)
    clear hp R6 h6 hlk hne c1 f1 hl
    refine (HE.out.2.1 _ X6.out.2).mono ?_
    rintro e w7 ⟨hs7, h7, hres⟩
    have R7 := X6.out.1.step hs7
    cases res with
    | bad u =>
      subst hres
      have X7 := Lib.hid (And.intro R7 h7)
      clear hs7 h7 R7
      go_wp2_with fail
      exact ⟨rfl, X7.out.1.bad X7.out.2⟩
    | ok x u =>
      obtain ⟨v, rfl, hN⟩ := hres
      obtain ⟨a1, d1, a2, d2, a3, d3, rfl⟩ := hN.form
      obtain ⟨y0, y1, y2, y3, y4, g0, g1, g2, g3, g4⟩ := row5 R7.row
      have X7 := Lib.hid (And.intro R7 (And.intro h7 (NR.past X6.out.1 hN)))
      clear hs7 h7 R7 hN
      go_wp2_with fail
      have hp := put5 X7.out.1.row (.int .u8 (x.kind : Int)) (.string (tx x.text)) (.slice a1 x.l.len d1) (.slice a2 x.body.len d2) (.slice a3 x.els.len d3)
      exact bodyPost_ret (results_cell1 rfl _ _ _ rfl (nodeVar _ c _ _ _ _ _ hp.row)) rfl (X7.out.1.fin X7.out.2.1 X7.out.2.2 (fun _ h => h) hp)
  | false =>
    obtain rfl := R5.out.2 rfl
    go_wp2_with fail
    refine look_t XM.out.2.1 0 (by decide) fun i j w5 hb5 => ?_
    rw [show (s :: r).getD 0 [] = s from rfl]
    have hlk := map_at (XM.out.2.2.frame (hb5.block mb XM.out.2.2.lt)) HE.out.2.2
    rw [HE.out.1] at hlk
    have h5 := XM.out.2.1.later hb5
    have hm := h5.one_more
    have hl := h5.len
    obtain ⟨_, c1, _, f1, _⟩ := h5.cell
    obtain ⟨q, hq⟩ : ∃ q, q = xs.length - (s :: r).length := ⟨_, rfl⟩
    obtain ⟨q', hq'⟩ : ∃ q', q' = xs.length - r.length := ⟨_, rfl⟩
    rw [← hq, ← hq'] at hm
    rw [← hq] at c1
    have q0 : (0 : Int) ≤ (q : Int) := by omega
    have q1 : (q : Int) < 65536 := by omega
    have X5 := Lib.hid (And.intro (XM.out.1.below hb5) (And.intro h5 (And.intro hq' hm)))
    unfold rdFn at hlk
    simp only [Option.getD_some] at hlk
    have hne := func_neq (.func f) #[.pointer (some ⟨rb, 0, none⟩)] #[] w5
    clear hb5 h5 hq hq' hm r2 r3 r4 hmk
    go_wp2_with fail
    have hp := X5.out.2.1.put1
    have R6 := X5.out.1.step hp.step
    have h6 := X5.out.2.1.next hp
    rw [← X5.out.2.2.1, ← X5.out.2.2.2] at R6 h6
    have X6 := Lib.hid (And.intro R6 h6)
    clear hp R6 h6 hlk hne c1 f1 hl
    refine (HE.out.2.1 _ X6.out.2).mono ?_
    rintro e w7 ⟨hs7, h7, hres⟩
    have R7 := X6.out.1.step hs7
    cases res with
    | bad u =>
      subst hres
      have X7 := Lib.hid (And.intro R7 h7)
      clear hs7 h7 R7
      go_wp2_with fail
      exact ⟨rfl, X7.out.1.bad X7.out.2⟩
    | ok x u =>
      obtain ⟨v, rfl, hN⟩ := hres
      obtain ⟨a1, d1, a2, d2, a3, d3, rfl⟩ := hN.form
      obtain ⟨y0, y1, y2, y3, y4, g0, g1, g2, g3, g4⟩ := row5 R7.row
      have X7 := Lib.hid (And.intro R7 (And.intro h7 (NR.past X6.out.1 hN)))
      clear hs7 h7 R7 hN
      go_wp2_with fail
      have hp := put5 X7.out.1.row (.int .u8 (x.kind : Int)) (.string (tx x.text)) (.slice a1 x.l.len d1) (.slice a2 x.body.len d2) (.slice a3 x.els.len d3)
      exact bodyPost_ret (results_cell1 rfl _ _ _ rfl (nodeVar _ c _ _ _ _ _ hp.row)) rfl (X7.out.1.fin X7.out.2.1 X7.out.2.2 (fun _ h => h) hp)
end Go.Proofs.YtcldcigopkfmmaaGreatDoor

/- Trees: the reader: a statement that is no word's: x = .., or an expression. -/
namespace Go.Proofs.YtcldcigopkfmmaaGreatDoor
open Go.RowKit Go.My Go.Nd

theorem Rd.short0 {w : World} {rb : Nat} {tv : Value} {xs : List To.T} {ts : List Tx} {inn : Bool} (h : Rd w rb tv xs ts inn) (k : Nat) : (ts.getD k []).length ≤ 65536 := by
  by_cases hk : k < ts.length
  · obtain ⟨_, _, _, _, _, _, _, _, _, _, _, _, hs⟩ := h.token k hk
    rw [List.getD_eq_getElem?_getD, List.getElem?_eq_getElem hk]; exact hs
  · rw [List.getD_eq_getElem?_getD, List.getElem?_eq_none (by omega)]; exact Nat.zero_le _

theorem Rd.two {w : World} {rb : Nat} {tv : Value} {xs : List To.T} {s p : Tx} {r : List Tx} {inn : Bool} (h : Rd w rb tv xs (s :: p :: r) inn) :
    Put w (w.setCell ⟨rb, 1, none⟩ (.int .i64 ((xs.length - r.length : Nat) : Int))) rb #[tv, .int .i64 ((xs.length - r.length : Nat) : Int), .bool inn] 61 ∧ Rd (w.setCell ⟨rb, 1, none⟩ (.int .i64 ((xs.length - r.length : Nat) : Int))) rb tv xs r inn := by
  have hp : Put w (w.setCell ⟨rb, 1, none⟩ (.int .i64 ((xs.length - r.length : Nat) : Int))) rb #[tv, .int .i64 ((xs.length - r.length : Nat) : Int), .bool inn] 61 := Put.one h.row 1 _
  exact ⟨hp, hp.row, ((List.suffix_cons p r).trans (List.suffix_cons s (p :: r))).trans h.suf, h.toks.frame (by rw [hp.size]; exact Nat.le_refl _) fun b hb _ => hp.oth b (Nat.ne_of_lt hb), h.len, h.short⟩

set_option maxRecDepth 100000 in
set_option maxHeartbeats 4000000 in
/-- A statement that is an expression. -/
theorem stmt_do {rb : Nat} {tv : Value} {xs : List To.T} {inn : Bool} {ts : List Tx} (hrow : rowsF rb inn (ts.getD 0 []) = none) (hno : To.name (ts.getD 0 []) = false ∨ ts.getD 1 [] ≠ [61]) {w : World} (h : Rd w rb tv xs ts inn) :
    Calls Tryz.prog 99 #[.pointer (some ⟨rb, 0, none⟩)] w (Got w rb tv xs inn (ends 13 [] ts)) := by
  obtain ⟨u, hu⟩ : ∃ u, u = ts.getD 0 [] := ⟨_, rfl⟩
  obtain ⟨p, hp⟩ : ∃ p, p = ts.getD 1 [] := ⟨_, rfl⟩
  rw [← hu] at hrow hno
  rw [← hp] at hno
  have HE := Lib.hid (And.intro hrow (And.intro hno (And.intro (hu ▸ h.short0 0 : u.length ≤ 65536) (And.intro hu hp))))
  obtain ⟨nm, hnm⟩ : ∃ nm, nm = To.name u := ⟨_, rfl⟩
  have hpe := bs_tlp p
  have tT := tokText
  have hq : nm = true → (p == [61]) = false := fun e => hno.elim (fun h => by rw [← hnm, e] at h; cases h) (fun h => by simpa using h)
  have HQ := Lib.hid (And.intro hq hnm)
  clear hrow hno hu hp hnm hq
  have R0 := RA.start h.lt
  have h0 := h.later (Put.new w #[.int .u8 0, .string ⟨#[]⟩, .slice none 0 0, .slice none 0 0, .slice none 0 0] TN).1
  obtain ⟨c, hc⟩ : ∃ c, c = w.heap.size := ⟨_, rfl⟩
  obtain ⟨wA, hwA⟩ : ∃ wA, wA = w.alloc (.cells #[.int .u8 0, .string ⟨#[]⟩, .slice none 0 0, .slice none 0 0, .slice none 0 0] TN) := ⟨_, rfl⟩
  rw [← hwA] at R0 h0
  rw [← hc] at R0
  have X0 := Lib.hid (And.intro R0 h0)
  clear h R0 h0
  obtain ⟨w2, w3, w4, wM, r2, r3, r4, r5, r5', hM, b4, bM⟩ := rows_built wA rb inn
  obtain ⟨mb, hmb⟩ : ∃ mb, mb = wA.heap.size := ⟨_, rfl⟩
  have XM := Lib.hid (And.intro (X0.out.1.below bM) (And.intro (X0.out.2.later bM) (hmb ▸ hM)))
  have c2 := (X0.out.2.later b4).cell.2.2.1
  rw [← hmb] at r2 r3 r4 r5
  unfold rdFn at r2 r3 r4 r5
  have hmk : (Instr.makeMap 181 none).run Tryz.prog wA = .ok (.map (some mb)) (wA.alloc (.map #[] 0)) := by rw [hmb]; rfl
  have R5 := Lib.hid (And.intro r5 r5')
  clear hM b4 bM r5 r5'
  go_enter Tryz.func99, Tryz.ntmps99
  go_upto_region 1 with fail
  rw [← hwA, ← hc]
  clear hwA hc hmb
  cases inn with
  | true =>
    have r5 := R5.out.1 rfl
    go_wp2_with fail
    clear r5
    refine look_t XM.out.2.1 0 (by decide) fun i j w5 hb5 => ?_
    rw [← HE.out.2.2.2.1]
    have hlk := map_at (XM.out.2.2.frame (hb5.block mb XM.out.2.2.lt)) HE.out.2.2.1
    rw [HE.out.1] at hlk
    simp only [Option.getD_none] at hlk
    have hne := nil_neq w5
    have X5 := Lib.hid (And.intro (XM.out.1.below hb5) (XM.out.2.1.later hb5))
    clear hb5 r2 r3 r4 hmk
    go_wp2_with fail
    refine named_t X5.out.2 fun w5' hb6 => ?_
    rw [← HE.out.2.2.2.1, ← HQ.out.2]
    have X6' := Lib.hid (And.intro (X5.out.1.below hb6) (X5.out.2.later hb6))
    clear hb6 hlk hne
    cases nm with
    | false =>
      have X6 := X6'
      go_wp2_with fail
      refine (ends_t 13 (by decide) X6.out.2).mono ?_
      rintro e w7 ⟨hs7, h7, hres⟩
      have R7 := X6.out.1.step hs7
      cases hrd : ends 13 [] ts with
      | bad q =>
        rw [hrd] at hres h7
        subst hres
        have X7 := Lib.hid (And.intro R7 (And.intro h7 hrd))
        clear hs7 h7 R7 hrd
        go_wp2_with fail
        refine ⟨rfl, ?_⟩
        first | rw [X7.out.2.2] | skip
        exact X7.out.1.bad X7.out.2.1
      | ok x q =>
        rw [hrd] at hres h7
        obtain ⟨v, rfl, hN⟩ := hres
        obtain ⟨a1, d1, a2, d2, a3, d3, rfl⟩ := hN.form
        obtain ⟨y0, y1, y2, y3, y4, g0, g1, g2, g3, g4⟩ := row5 R7.row
        have X7 := Lib.hid (And.intro R7 (And.intro h7 (And.intro hrd (NR.past X6.out.1 hN))))
        clear hs7 h7 R7 hN hrd
        go_wp2_with fail
        have hp := put5 X7.out.1.row (.int .u8 (x.kind : Int)) (.string (tx x.text)) (.slice a1 x.l.len d1) (.slice a2 x.body.len d2) (.slice a3 x.els.len d3)
        refine bodyPost_ret (results_cell1 rfl _ _ _ rfl (nodeVar _ c _ _ _ _ _ hp.row)) rfl ?_
        first | rw [X7.out.2.2.1] | skip
        exact X7.out.1.fin X7.out.2.1 X7.out.2.2.2 (fun _ h => h) hp
    | true =>
      have hq := HQ.out.1 rfl
      go_wp2_with fail
      refine look_t X6'.out.2 1 (by decide) fun i' j' w6 hb7 => ?_
      rw [← HE.out.2.2.2.2]
      have X6 := Lib.hid (And.intro (X6'.out.1.below hb7) (X6'.out.2.later hb7))
      clear hb7
      go_wp2_with fail
      refine (ends_t 13 (by decide) X6.out.2).mono ?_
      rintro e w7 ⟨hs7, h7, hres⟩
      have R7 := X6.out.1.step hs7
      cases hrd : ends 13 [] ts with
      | bad q =>
        rw [hrd] at hres h7
        subst hres
        have X7 := Lib.hid (And.intro R7 (And.intro h7 hrd))
        clear hs7 h7 R7 hrd
        go_wp2_with fail
        refine ⟨rfl, ?_⟩
        first | rw [X7.out.2.2] | skip
        exact X7.out.1.bad X7.out.2.1
      | ok x q =>
        rw [hrd] at hres h7
        obtain ⟨v, rfl, hN⟩ := hres
        obtain ⟨a1, d1, a2, d2, a3, d3, rfl⟩ := hN.form
        obtain ⟨y0, y1, y2, y3, y4, g0, g1, g2, g3, g4⟩ := row5 R7.row
        have X7 := Lib.hid (And.intro R7 (And.intro h7 (And.intro hrd (NR.past X6.out.1 hN))))
        clear hs7 h7 R7 hN hrd
        go_wp2_with fail
        have hp := put5 X7.out.1.row (.int .u8 (x.kind : Int)) (.string (tx x.text)) (.slice a1 x.l.len d1) (.slice a2 x.body.len d2) (.slice a3 x.els.len d3)
        refine bodyPost_ret (results_cell1 rfl _ _ _ rfl (nodeVar _ c _ _ _ _ _ hp.row)) rfl ?_
        first | rw [X7.out.2.2.1] | skip
        exact X7.out.1.fin X7.out.2.1 X7.out.2.2.2 (fun _ h => h) hp
  | false =>
    obtain rfl := R5.out.2 rfl
    go_wp2_with fail
    refine look_t XM.out.2.1 0 (by decide) fun i j w5 hb5 => ?_
    rw [← HE.out.2.2.2.1]
    have hlk := map_at (XM.out.2.2.frame (hb5.block mb XM.out.2.2.lt)) HE.out.2.2.1
    rw [HE.out.1] at hlk
    simp only [Option.getD_none] at hlk
    have hne := nil_neq w5
    have X5 := Lib.hid (And.intro (XM.out.1.below hb5) (XM.out.2.1.later hb5))
    clear hb5 r2 r3 r4 hmk
    go_wp2_with fail
    refine named_t X5.out.2 fun w5' hb6 => ?_
    rw [← HE.out.2.2.2.1, ← HQ.out.2]
    have X6' := Lib.hid (And.intro (X5.out.1.below hb6) (X5.out.2.later hb6))
    clear hb6 hlk hne
    cases nm with
    | false =>
      have X6 := X6'
      go_wp2_with fail
      refine (ends_t 13 (by decide) X6.out.2).mono ?_
      rintro e w7 ⟨hs7, h7, hres⟩
      have R7 := X6.out.1.step hs7
      cases hrd : ends 13 [] ts with
      | bad q =>
        rw [hrd] at hres h7
        subst hres
        have X7 := Lib.hid (And.intro R7 (And.intro h7 hrd))
        clear hs7 h7 R7 hrd
        go_wp2_with fail
        refine ⟨rfl, ?_⟩
        first | rw [X7.out.2.2] | skip
        exact X7.out.1.bad X7.out.2.1
      | ok x q =>
        rw [hrd] at hres h7
        obtain ⟨v, rfl, hN⟩ := hres
        obtain ⟨a1, d1, a2, d2, a3, d3, rfl⟩ := hN.form
        obtain ⟨y0, y1, y2, y3, y4, g0, g1, g2, g3, g4⟩ := row5 R7.row
        have X7 := Lib.hid (And.intro R7 (And.intro h7 (And.intro hrd (NR.past X6.out.1 hN))))
        clear hs7 h7 R7 hN hrd
        go_wp2_with fail
        have hp := put5 X7.out.1.row (.int .u8 (x.kind : Int)) (.string (tx x.text)) (.slice a1 x.l.len d1) (.slice a2 x.body.len d2) (.slice a3 x.els.len d3)
        refine bodyPost_ret (results_cell1 rfl _ _ _ rfl (nodeVar _ c _ _ _ _ _ hp.row)) rfl ?_
        first | rw [X7.out.2.2.1] | skip
        exact X7.out.1.fin X7.out.2.1 X7.out.2.2.2 (fun _ h => h) hp
    | true =>
      have hq := HQ.out.1 rfl
      go_wp2_with fail
      refine look_t X6'.out.2 1 (by decide) fun i' j' w6 hb7 => ?_
      rw [← HE.out.2.2.2.2]
      have X6 := Lib.hid (And.intro (X6'.out.1.below hb7) (X6'.out.2.later hb7))
      clear hb7
      go_wp2_with fail
      refine (ends_t 13 (by decide) X6.out.2).mono ?_
      rintro e w7 ⟨hs7, h7, hres⟩
      have R7 := X6.out.1.step hs7
      cases hrd : ends 13 [] ts with
      | bad q =>
        rw [hrd] at hres h7
        subst hres
        have X7 := Lib.hid (And.intro R7 (And.intro h7 hrd))
        clear hs7 h7 R7 hrd
        go_wp2_with fail
        refine ⟨rfl, ?_⟩
        first | rw [X7.out.2.2] | skip
        exact X7.out.1.bad X7.out.2.1
      | ok x q =>
        rw [hrd] at hres h7
        obtain ⟨v, rfl, hN⟩ := hres
        obtain ⟨a1, d1, a2, d2, a3, d3, rfl⟩ := hN.form
        obtain ⟨y0, y1, y2, y3, y4, g0, g1, g2, g3, g4⟩ := row5 R7.row
        have X7 := Lib.hid (And.intro R7 (And.intro h7 (And.intro hrd (NR.past X6.out.1 hN))))
        clear hs7 h7 R7 hN hrd
        go_wp2_with fail
        have hp := put5 X7.out.1.row (.int .u8 (x.kind : Int)) (.string (tx x.text)) (.slice a1 x.l.len d1) (.slice a2 x.body.len d2) (.slice a3 x.els.len d3)
        refine bodyPost_ret (results_cell1 rfl _ _ _ rfl (nodeVar _ c _ _ _ _ _ hp.row)) rfl ?_
        first | rw [X7.out.2.2.1] | skip
        exact X7.out.1.fin X7.out.2.1 X7.out.2.2.2 (fun _ h => h) hp

theorem NR.retext {w : World} {T : TypeId} {lo hi : Nat} {s : List UInt8} {u1 u2 u3 : Value} {x : Nd} (h : NR w T lo hi (.agg #[.int .u8 (x.kind : Int), .string (tx x.text), u1, u2, u3]) x) (hs : s.length ≤ 140737488351232) :
    NR w T lo hi (.agg #[.int .u8 (x.kind : Int), .string (tx s), u1, u2, u3]) { x with text := s } := by
  obtain ⟨_, _, hk, _, F1, F2, F3, a1, a2, a3, hr⟩ := h.parts
  exact ⟨⟨x.kind, s, u1, u2, u3⟩, F1 ++ (F2 ++ F3), rfl, ⟨F1, F2, F3, rfl, ⟨⟨rfl, hk⟩, rfl, hs⟩, a1, a2, a3⟩, hr⟩
theorem ends_text (k : Nat) (s : Tx) (ts : List Tx) : ends k s ts = (ends k [] ts).map fun x => { x with text := s } := by
  unfold ends
  cases expr ts with
  | bad q => rfl
  | ok x q =>
    show must [59] _ q = R.map _ (must [59] _ q)
    cases q with
    | nil => rfl
    | cons a q => unfold must; simp only; split <;> rfl

set_option maxRecDepth 100000 in
set_option maxHeartbeats 4000000 in
/-- A statement that sets a name. -/
theorem stmt_let {rb : Nat} {tv : Value} {xs : List To.T} {inn : Bool} {s : Tx} {r : List Tx} (hrow : rowsF rb inn s = none) (hs : To.name s = true) {w : World} (h : Rd w rb tv xs (s :: [61] :: r) inn) :
    Calls Tryz.prog 99 #[.pointer (some ⟨rb, 0, none⟩)] w (Got w rb tv xs inn (ends 8 s r)) := by
  have HE := Lib.hid (And.intro hrow (And.intro hs (h.short0 0 : s.length ≤ 65536)))
  have tT := tokText
  have hpe := bs_tlp [61]
  clear hrow hs
  have R0 := RA.start h.lt
  have h0 := h.later (Put.new w #[.int .u8 0, .string ⟨#[]⟩, .slice none 0 0, .slice none 0 0, .slice none 0 0] TN).1
  obtain ⟨c, hc⟩ : ∃ c, c = w.heap.size := ⟨_, rfl⟩
  obtain ⟨wA, hwA⟩ : ∃ wA, wA = w.alloc (.cells #[.int .u8 0, .string ⟨#[]⟩, .slice none 0 0, .slice none 0 0, .slice none 0 0] TN) := ⟨_, rfl⟩
  rw [← hwA] at R0 h0
  rw [← hc] at R0
  have X0 := Lib.hid (And.intro R0 h0)
  clear h R0 h0
  obtain ⟨w2, w3, w4, wM, r2, r3, r4, r5, r5', hM, b4, bM⟩ := rows_built wA rb inn
  obtain ⟨mb, hmb⟩ : ∃ mb, mb = wA.heap.size := ⟨_, rfl⟩
  have XM := Lib.hid (And.intro (X0.out.1.below bM) (And.intro (X0.out.2.later bM) (hmb ▸ hM)))
  have c2 := (X0.out.2.later b4).cell.2.2.1
  rw [← hmb] at r2 r3 r4 r5
  unfold rdFn at r2 r3 r4 r5
  have hmk : (Instr.makeMap 181 none).run Tryz.prog wA = .ok (.map (some mb)) (wA.alloc (.map #[] 0)) := by rw [hmb]; rfl
  have R5 := Lib.hid (And.intro r5 r5')
  clear hM b4 bM r5 r5'
  go_enter Tryz.func99, Tryz.ntmps99
  go_upto_region 1 with fail
  rw [← hwA, ← hc]
  clear hwA hc hmb
  cases inn with
  | true =>
    have r5 := R5.out.1 rfl
    go_wp2_with fail
    clear r5
    refine look_t XM.out.2.1 0 (by decide) fun i j w5 hb5 => ?_
    rw [show (s :: [61] :: r).getD 0 [] = s from rfl]
    have hlk := map_at (s := s) (XM.out.2.2.frame (hb5.block mb XM.out.2.2.lt)) HE.out.2.2
    rw [HE.out.1] at hlk
    simp only [Option.getD_none] at hlk
    have hne := nil_neq w5
    have X5 := Lib.hid (And.intro (XM.out.1.below hb5) (XM.out.2.1.later hb5))
    clear hb5 r2 r3 r4 hmk
    go_wp2_with fail
    refine named_t X5.out.2 fun w5' hb6 => ?_
    rw [show (s :: [61] :: r).getD 0 [] = s from rfl, HE.out.2.1]
    have X6' := Lib.hid (And.intro (X5.out.1.below hb6) (X5.out.2.later hb6))
    clear hb6 hlk hne
    go_wp2_with fail
    refine look_t X6'.out.2 1 (by decide) fun i' j' w6 hb7 => ?_
    rw [show (s :: [61] :: r).getD 1 [] = [61] from rfl]
    have R6 := X6'.out.1.below hb7
    have h6 := X6'.out.2.later hb7
    obtain ⟨_, c1, _, f1, _⟩ := h6.cell
    have hl := h6.len
    have hle := h6.le
    obtain ⟨q, hq⟩ : ∃ q, q = xs.length - (s :: [61] :: r).length := ⟨_, rfl⟩
    obtain ⟨q', hq'⟩ : ∃ q', q' = xs.length - r.length := ⟨_, rfl⟩
    have hm : (q : Int) + 2 = (q' : Int) := by rw [hq, hq']; simp only [List.length_cons] at hle ⊢; omega
    rw [← hq] at c1
    have q0 : (0 : Int) ≤ (q : Int) := by omega
    have q1 : (q : Int) < 65536 := by omega
    obtain ⟨hp, h7⟩ := h6.two
    have R7 := R6.step hp.step
    rw [← hq', ← hm] at h7 R7
    have X7 := Lib.hid (And.intro R7 h7)
    clear R7
    clear hb7 R6 h6 hq hq' hm hp h7 hl hle
    go_wp2_with fail
    refine (ends_t 8 (by decide) X7.out.2).mono ?_
    rintro e w8 ⟨hs8, h8, hres⟩
    have R8 := X7.out.1.step hs8
    cases hrd : ends 8 [] r with
    | bad u =>
      rw [hrd] at hres h8
      subst hres
      have X8 := Lib.hid (And.intro R8 (And.intro h8 hrd))
      clear hs8 h8 R8 hrd
      go_wp2_with fail
      refine ⟨rfl, ?_⟩
      rw [ends_text, X8.out.2.2]
      exact X8.out.1.bad X8.out.2.1
    | ok x u =>
      rw [hrd] at hres h8
      obtain ⟨v, rfl, hN⟩ := hres
      obtain ⟨a1, d1, a2, d2, a3, d3, rfl⟩ := hN.form
      have hN := NR.retext (s := s) hN (by have : s.length ≤ 65536 := HE.out.2.2; omega)
      have hb := R8.box #[.int .u8 (x.kind : Int), .string (tx x.text), .slice a1 x.l.len d1, .slice a2 x.body.len d2, .slice a3 x.els.len d3]
      obtain ⟨b6, hb6⟩ : ∃ b6, b6 = w8.heap.size := ⟨_, rfl⟩
      obtain ⟨w9, hw9⟩ : ∃ w9, w9 = w8.alloc (.cells #[.int .u8 (x.kind : Int), .string (tx x.text), .slice a1 x.l.len d1, .slice a2 x.body.len d2, .slice a3 x.els.len d3] TN) := ⟨_, rfl⟩
      rw [← hw9] at hb
      have hcb : c < b6 := by have := R8.lt; omega
      have hrow9 : w9.heap[b6]? = _ := hb6 ▸ hb.2.1
      have hp9 : Put w9 (w9.setCell ⟨b6, 1, none⟩ (.string (bs s))) b6 #[.int .u8 (x.kind : Int), .string (bs s), .slice a1 x.l.len d1, .slice a2 x.body.len d2, .slice a3 x.els.len d3] TN := Put.one hrow9 1 _
      have hN9 : NS w9 TN (fun b => c < b ∧ b < b6) _ _ := NS.later (hN.ns (S := fun b => c < b ∧ b < b6) fun b q1 q2 => by have := X7.out.1.lt; omega) hb.2.2
      have hN10 := NS.frame hN9 (fun b hb' _ => hp9.oth b (by omega))
      have R10 := hb.1.put hp9 hcb
      have h10 := (h8.later hb.2.2).put hp9 (by have := R8.hrb; omega)
      obtain ⟨x0, x1, x2, x3, x4, f0', f1', f2', f3', f4'⟩ := row5 hrow9
      obtain ⟨w10, hw10⟩ : ∃ w10, w10 = w9.setCell ⟨b6, 1, none⟩ (.string (bs s)) := ⟨_, rfl⟩
      have hrow10 := hp9.row
      rw [← hw10] at R10 h10 hN10 hrow10
      obtain ⟨z0, z1, z2, z3, z4, _, _, _, _, _⟩ := row5 hrow10
      obtain ⟨y0, y1, y2, y3, y4, g0, g1, g2, g3, g4⟩ := row5 R10.row
      have X10 := Lib.hid (And.intro R10 (And.intro h10 (And.intro hN10 hrd)))
      clear hp9 hN9 hN10 R10 h10 hrow9 hrow10 hb hcb hs8 h8 R8 hN hrd c1 f1
      go_upto_region 12 with fail
      rw [← hw9, ← hb6]
      clear hw9 hb6
      go_upto_region 13 with fail
      rw [← hw10]
      clear hw10 x0 x1 x2 x3 x4 f0' f1' f2' f3' f4'
      go_wp2_with fail
      have hp := put5 X10.out.1.row (.int .u8 (x.kind : Int)) (.string (bs s)) (.slice a1 x.l.len d1) (.slice a2 x.body.len d2) (.slice a3 x.els.len d3)
      refine bodyPost_ret (results_cell1 rfl _ _ _ rfl (nodeVar _ c _ _ _ _ _ hp.row)) rfl ?_
      rw [ends_text, X10.out.2.2.2]
      exact X10.out.1.fin (x := { x with text := s }) X10.out.2.1 X10.out.2.2.1 (fun _ h => h.1) hp
  | false =>
    obtain rfl := R5.out.2 rfl
    go_wp2_with fail
    refine look_t XM.out.2.1 0 (by decide) fun i j w5 hb5 => ?_
    rw [show (s :: [61] :: r).getD 0 [] = s from rfl]
    have hlk := map_at (s := s) (XM.out.2.2.frame (hb5.block mb XM.out.2.2.lt)) HE.out.2.2
    rw [HE.out.1] at hlk
    simp only [Option.getD_none] at hlk
    have hne := nil_neq w5
    have X5 := Lib.hid (And.intro (XM.out.1.below hb5) (XM.out.2.1.later hb5))
    clear hb5 r2 r3 r4 hmk
    go_wp2_with fail
    refine named_t X5.out.2 fun w5' hb6 => ?_
    rw [show (s :: [61] :: r).getD 0 [] = s from rfl, HE.out.2.1]
    have X6' := Lib.hid (And.intro (X5.out.1.below hb6) (X5.out.2.later hb6))
    clear hb6 hlk hne
    go_wp2_with fail
    refine look_t X6'.out.2 1 (by decide) fun i' j' w6 hb7 => ?_
    rw [show (s :: [61] :: r).getD 1 [] = [61] from rfl]
    have R6 := X6'.out.1.below hb7
    have h6 := X6'.out.2.later hb7
    obtain ⟨_, c1, _, f1, _⟩ := h6.cell
    have hl := h6.len
    have hle := h6.le
    obtain ⟨q, hq⟩ : ∃ q, q = xs.length - (s :: [61] :: r).length := ⟨_, rfl⟩
    obtain ⟨q', hq'⟩ : ∃ q', q' = xs.length - r.length := ⟨_, rfl⟩
    have hm : (q : Int) + 2 = (q' : Int) := by rw [hq, hq']; simp only [List.length_cons] at hle ⊢; omega
    rw [← hq] at c1
    have q0 : (0 : Int) ≤ (q : Int) := by omega
    have q1 : (q : Int) < 65536 := by omega
    obtain ⟨hp, h7⟩ := h6.two
    have R7 := R6.step hp.step
    rw [← hq', ← hm] at h7 R7
    have X7 := Lib.hid (And.intro R7 h7)
    clear R7
    clear hb7 R6 h6 hq hq' hm hp h7 hl hle
    go_wp2_with fail
    refine (ends_t 8 (by decide) X7.out.2).mono ?_
    rintro e w8 ⟨hs8, h8, hres⟩
    have R8 := X7.out.1.step hs8
    cases hrd : ends 8 [] r with
    | bad u =>
      rw [hrd] at hres h8
      subst hres
      have X8 := Lib.hid (And.intro R8 (And.intro h8 hrd))
      clear hs8 h8 R8 hrd
      go_wp2_with fail
      refine ⟨rfl, ?_⟩
      rw [ends_text, X8.out.2.2]
      exact X8.out.1.bad X8.out.2.1
    | ok x u =>
      rw [hrd] at hres h8
      obtain ⟨v, rfl, hN⟩ := hres
      obtain ⟨a1, d1, a2, d2, a3, d3, rfl⟩ := hN.form
      have hN := NR.retext (s := s) hN (by have : s.length ≤ 65536 := HE.out.2.2; omega)
      have hb := R8.box #[.int .u8 (x.kind : Int), .string (tx x.text), .slice a1 x.l.len d1, .slice a2 x.body.len d2, .slice a3 x.els.len d3]
      obtain ⟨b6, hb6⟩ : ∃ b6, b6 = w8.heap.size := ⟨_, rfl⟩
      obtain ⟨w9, hw9⟩ : ∃ w9, w9 = w8.alloc (.cells #[.int .u8 (x.kind : Int), .string (tx x.text), .slice a1 x.l.len d1, .slice a2 x.body.len d2, .slice a3 x.els.len d3] TN) := ⟨_, rfl⟩
      rw [← hw9] at hb
      have hcb : c < b6 := by have := R8.lt; omega
      have hrow9 : w9.heap[b6]? = _ := hb6 ▸ hb.2.1
      have hp9 : Put w9 (w9.setCell ⟨b6, 1, none⟩ (.string (bs s))) b6 #[.int .u8 (x.kind : Int), .string (bs s), .slice a1 x.l.len d1, .slice a2 x.body.len d2, .slice a3 x.els.len d3] TN := Put.one hrow9 1 _
      have hN9 : NS w9 TN (fun b => c < b ∧ b < b6) _ _ := NS.later (hN.ns (S := fun b => c < b ∧ b < b6) fun b q1 q2 => by have := X7.out.1.lt; omega) hb.2.2
      have hN10 := NS.frame hN9 (fun b hb' _ => hp9.oth b (by omega))
      have R10 := hb.1.put hp9 hcb
      have h10 := (h8.later hb.2.2).put hp9 (by have := R8.hrb; omega)
      obtain ⟨x0, x1, x2, x3, x4, f0', f1', f2', f3', f4'⟩ := row5 hrow9
      obtain ⟨w10, hw10⟩ : ∃ w10, w10 = w9.setCell ⟨b6, 1, none⟩ (.string (bs s)) := ⟨_, rfl⟩
      have hrow10 := hp9.row
      rw [← hw10] at R10 h10 hN10 hrow10
      obtain ⟨z0, z1, z2, z3, z4, _, _, _, _, _⟩ := row5 hrow10
      obtain ⟨y0, y1, y2, y3, y4, g0, g1, g2, g3, g4⟩ := row5 R10.row
      have X10 := Lib.hid (And.intro R10 (And.intro h10 (And.intro hN10 hrd)))
      clear hp9 hN9 hN10 R10 h10 hrow9 hrow10 hb hcb hs8 h8 R8 hN hrd c1 f1
      go_upto_region 12 with fail
      rw [← hw9, ← hb6]
      clear hw9 hb6
      go_upto_region 13 with fail
      rw [← hw10]
      clear hw10 x0 x1 x2 x3 x4 f0' f1' f2' f3' f4'
      go_wp2_with fail
      have hp := put5 X10.out.1.row (.int .u8 (x.kind : Int)) (.string (bs s)) (.slice a1 x.l.len d1) (.slice a2 x.body.len d2) (.slice a3 x.els.len d3)
      refine bodyPost_ret (results_cell1 rfl _ _ _ rfl (nodeVar _ c _ _ _ _ _ hp.row)) rfl ?_
      rw [ends_text, X10.out.2.2.2]
      exact X10.out.1.fin (x := { x with text := s }) X10.out.2.1 X10.out.2.2.1 (fun _ h => h.1) hp
end Go.Proofs.YtcldcigopkfmmaaGreatDoor

/- Trees: the reader: statements as a whole. -/
namespace Go.Proofs.YtcldcigopkfmmaaGreatDoor
open Go.RowKit Go.My Go.Nd

theorem Reads.less {fn : FuncId} {args : Array Value} {rb : Nat} {tv : Value} {xs : List To.T} {inn : Bool} {K : World → Prop} {n m : Nat} {read : List Tx → R Nd} (h : Reads fn args rb tv xs inn K n read) (hm : m ≤ n) : Reads fn args rb tv xs inn K m read :=
  fun w ts hl hk hr => h w ts (Nat.le_trans hl hm) hk hr
theorem readsB_of {rb : Nat} {tv : Value} {xs : List To.T} {inn : Bool} {n : Nat} (h : Reads 99 #[.pointer (some ⟨rb, 0, none⟩)] rb tv xs inn (fun _ => True) n (stm inn)) : ReadsB rb tv xs inn n :=
  fun _ _ hl hr => block_r h (Nat.le_trans hl (Nat.le_succ _)) hr

theorem rowsF_if (rb : Nat) (inn : Bool) : rowsF rb inn [105, 102] = some (rdFn rb 132) := by
  unfold rowsF; rw [if_neg (fun e => absurd e.2 (by decide)), if_neg (by decide), if_neg (by decide), if_pos rfl]
theorem rowsF_while (rb : Nat) (inn : Bool) : rowsF rb inn [119, 104, 105, 108, 101] = some (rdFn rb 133) := by
  unfold rowsF; rw [if_neg (fun e => absurd e.2 (by decide)), if_neg (by decide), if_pos rfl]
theorem rowsF_tell (rb : Nat) (inn : Bool) : rowsF rb inn [116, 101, 108, 108] = some (rdFn rb 134) := by
  unfold rowsF; rw [if_neg (fun e => absurd e.2 (by decide)), if_pos rfl]
theorem rowsF_return (rb : Nat) : rowsF rb true [114, 101, 116, 117, 114, 110] = some (rdFn rb 135) := by
  unfold rowsF; rw [if_pos ⟨rfl, rfl⟩]
set_option maxRecDepth 100000 in
theorem stm_step {rb : Nat} {tv : Value} {xs : List To.T} {inn : Bool} {w : World} {ts : List Tx} (ih : ∀ s r, ts = s :: r → Reads 99 #[.pointer (some ⟨rb, 0, none⟩)] rb tv xs inn (fun _ => True) r.length (stm inn)) (h : Rd w rb tv xs ts inn) :
    Calls Tryz.prog 99 #[.pointer (some ⟨rb, 0, none⟩)] w (Got w rb tv xs inn (stm inn ts)) := by
  cases ts with
  | nil =>
    rw [stm_nil]
    exact stmt_do (rowsF_nil rb inn) (.inl (by decide)) h
  | cons s r =>
    have hs := readsB_of (ih s r rfl)
    rw [stm_cons]
    by_cases h1 : s = [105, 102]
    · subst h1
      rw [if_pos rfl]
      exact stmt_row (rowsF_if rb inn) (fun _ => rfl) (fun w hr => branch_r hs (Nat.le_refl _) hr) h
    · rw [if_neg h1]
      by_cases h2 : s = [119, 104, 105, 108, 101]
      · subst h2
        rw [if_pos rfl]
        exact stmt_row (rowsF_while rb inn) (fun _ => rfl) (fun w hr => loop_r hs (Nat.le_refl _) hr) h
      · rw [if_neg h2]
        by_cases h3 : s = [116, 101, 108, 108]
        · subst h3
          rw [if_pos rfl]
          exact stmt_row (rowsF_tell rb inn) (fun _ => rfl) (fun w hr => tell_t hr) h
        · rw [if_neg h3]
          by_cases h4 : (inn && s == [114, 101, 116, 117, 114, 110]) = true
          · rw [if_pos h4]
            simp only [Bool.and_eq_true, beq_iff_eq] at h4
            obtain ⟨rfl, rfl⟩ := h4
            exact stmt_row (rowsF_return rb) (fun _ => rfl) (fun w hr => answer_t hr) h
          · rw [if_neg h4]
            have hrow : rowsF rb inn s = none := by
              unfold rowsF
              rw [if_neg (by intro e; exact h4 (by simp [e.1, e.2])), if_neg h3, if_neg h2, if_neg h1]
            cases r with
            | nil => exact stmt_do hrow (.inr (by simp)) h
            | cons p r =>
              simp only
              by_cases h5 : (To.name s && p == [61]) = true
              · rw [if_pos h5]
                simp only [Bool.and_eq_true, beq_iff_eq] at h5
                obtain ⟨h5, rfl⟩ := h5
                exact stmt_let hrow h5 h
              · rw [if_neg h5]
                refine stmt_do hrow ?_ h
                cases h6 : To.name s with
                | false => exact .inl h6
                | true => exact .inr (by intro e; exact h5 (by rw [h6]; simpa using e))

/-- STATEMENTS. -/
theorem stm_r {rb : Nat} {tv : Value} {xs : List To.T} {inn : Bool} : ∀ n, Reads 99 #[.pointer (some ⟨rb, 0, none⟩)] rb tv xs inn (fun _ => True) n (stm inn) := by
  intro n
  induction n with
  | zero =>
    intro w ts hn _ h
    have : ts = [] := List.eq_nil_of_length_eq_zero (by omega)
    subst this
    exact stm_step (fun s r e => by cases e) h
  | succ n ih =>
    intro w ts hn _ h
    refine stm_step (fun s r e => ?_) h
    subst e
    exact ih.less (by rw [List.length_cons] at hn; omega)
theorem stm_t {rb : Nat} {tv : Value} {xs : List To.T} {inn : Bool} {w : World} {ts : List Tx} (h : Rd w rb tv xs ts inn) : Calls Tryz.prog 99 #[.pointer (some ⟨rb, 0, none⟩)] w (Got w rb tv xs inn (stm inn ts)) :=
  stm_r ts.length w ts (Nat.le_refl _) trivial h
theorem block_t {rb : Nat} {tv : Value} {xs : List To.T} {inn : Bool} {w : World} {ts : List Tx} (h : Rd w rb tv xs ts inn) : Calls Tryz.prog 131 #[.pointer (some ⟨rb, 0, none⟩)] w (GotL w rb tv xs inn (block (stm inn) ts)) :=
  block_r (stm_r ts.length) (Nat.le_succ _) h
end Go.Proofs.YtcldcigopkfmmaaGreatDoor

/- Trees: the reader: texts in new memory; several names. -/
namespace Go.Proofs.YtcldcigopkfmmaaGreatDoor
open Go.RowKit Go.My Go.Nd

/-- What a call that reads a text does. -/
def GotS (w : World) (rb : Nat) (tv : Value) (xs : List To.T) (inn : Bool) (r : R Tx) (e : Ending) (w' : World) : Prop :=
  Step w w' (some rb) ∧ Rd w' rb tv xs r.rest inn ∧ match r with | .ok s _ => e = .returned (.string (bs s)) ∧ s.length ≤ 65536 | .bad _ => e = .panicked wrongChain
def GotT (w : World) (rb : Nat) (tv : Value) (xs : List To.T) (inn : Bool) (r : R (List Tx)) (e : Ending) (w' : World) : Prop :=
  Step w w' (some rb) ∧ Rd w' rb tv xs r.rest inn ∧ match r with | .ok l _ => ∃ v, e = .returned v ∧ TR w' w.heap.size w'.heap.size v l | .bad _ => e = .panicked wrongChain

theorem name_g {w : World} {rb : Nat} {tv : Value} {xs : List To.T} {ts : List Tx} {inn : Bool} (h : Rd w rb tv xs ts inn) : Calls Tryz.prog 128 #[.pointer (some ⟨rb, 0, none⟩)] w (GotS w rb tv xs inn (nameOf ts)) := by
  cases ts with
  | nil => exact rname_no h (by decide) fun w' hb => ⟨Step.of_below hb, h.later hb, rfl⟩
  | cons s r =>
    have hl : s.length ≤ 65536 := h.short0 0
    cases hs : To.name s with
    | true =>
      refine rname_yes h hs fun w' hst h' => ?_
      rw [show nameOf (s :: r) = .ok s r by unfold nameOf; simp only; rw [if_pos hs]]
      exact ⟨hst, h', rfl, hl⟩
    | false =>
      refine rname_no h hs fun w' hb => ?_
      rw [show nameOf (s :: r) = .bad (s :: r) by unfold nameOf; simp only; rw [if_neg (by rw [hs]; decide)]]
      exact ⟨Step.of_below hb, h.later hb, rfl⟩

structure SvtSt (w : World) (rb : Nat) (tv : Value) (xs : List To.T) (inn : Bool) (m : Nat) (fin : Tx) (tot : R (List Tx)) (l : List Tx) (ts : List Tx) (v : Value) (wr : World) : Prop where
  plain : (sevTail fin nameOf ts).map (l ++ ·) = tot
  many : l.length + ts.length ≤ m
  step : Step w wr (some rb)
  rd : Rd wr rb tv xs ts inn
  list : TR wr w.heap.size wr.heap.size v l
def SvtAt (w : World) (rb : Nat) (tv : Value) (xs : List To.T) (inn : Bool) (m : Nat) (fin : Tx) (tot : R (List Tx)) (gk : Nat) (v : Value) (wr : World) : Prop :=
  ∃ l ts, gk = ts.length ∧ SvtSt w rb tv xs inn m fin tot l ts v wr

/-- One more, appended: what is so behind it. -/
theorem TR.app {w w' : World} {lo hi : Nat} {v v' : Value} {l : List Tx} {s : Tx} (hs : s.length ≤ 65536) (hn : (l.length + 1) * 16 ≤ 140737488351232) (h : TR w lo hi v l) (h1 : lo ≤ hi) (h2 : hi ≤ w.heap.size) :
    ∃ k, Go.My.Own w TS 1 v l.length (l.map fun t => .string (tx t)) k ∧ (∀ b, k = some b → lo ≤ b ∧ b < hi) ∧ ∀ k', Go.My.Own w' TS 1 v' (l.length + 1) ((l.map fun t => .string (tx t)) ++ [.string (bs s)]) k' → Step w w' k → (k' = k ∨ ∃ j, k' = some j ∧ w.heap.size ≤ j) → TR w' lo w'.heap.size v' (l ++ [s]) := by
  obtain ⟨F, ⟨k, rfl, h3, h4, h5⟩, h6⟩ := h
  refine ⟨k, h3, fun b hb => h6.2 b (by subst hb; simp), fun k' ho st hk => ⟨k'.toList, ⟨k', rfl, by rw [List.length_append, List.map_append]; exact ho, by simpa using hn, fun t ht => ?_⟩, ?_⟩⟩
  · rcases List.mem_append.1 ht with ht | ht
    · exact h5 t ht
    · simp at ht; subst ht; omega
  · rcases hk with rfl | ⟨j, rfl, hj⟩
    · exact h6.mono (Nat.le_refl _) (Nat.le_trans h2 st.size)
    · exact InR.one.mono (by omega) (ho.lt j rfl)

theorem wpList_text (w : World) {ops : Array Oper} {rest : List Oper} {o : Oper} {a : Act} {Q : Exit → Act → World → Prop} (hgd : o.guard = none) (s x : Operand)
    (ho : o.op = .call { callee := .builtin .append, args := #[s, x], argTypes := #[68, 68] }) {v : Value} {l : List Tx} {lo hi : Nat} {y : Value} {u : Tx}
    (hs : a.eval s = v) (hown : TR w lo hi v l) (hu : u.length ≤ 65536) (hy : a.eval x = y) (hx : Src w 1 y 1 [.string (bs u)]) (h1 : lo ≤ hi) (h2 : hi ≤ w.heap.size) (hn : (l.length + 1) * 16 ≤ 140737488351232)
    (h : ∀ ao cap w', TR w' lo w'.heap.size (.slice ao (l.length + 1) cap) (l ++ [u]) → Below lo w w' → wpList Tryz.prog ops Q rest (a.put o.dst (.slice ao (l.length + 1) cap)) w') : wpList Tryz.prog ops Q (o :: rest) a w := by
  obtain ⟨k, ho', hk, _⟩ := TR.app (w' := w) (v' := v) hu hn hown h1 h2
  refine wpList_append w hgd s x ho strEl hs ho' hy hx (by simp [Value.oneCell']) (by simp only [maxLen]; omega) (by omega) fun v' w' k' q1 q2 q3 => ?_
  obtain ⟨ao, cap, rfl⟩ := own_form q1
  obtain ⟨k2, ho2, _, go⟩ := TR.app (w' := w') (v' := .slice ao (l.length + 1) cap) hu hn hown h1 h2
  have hkk : k2 = k := by
    obtain ⟨_, e1⟩ := ho'
    obtain ⟨_, e2⟩ := ho2
    rcases e1 with ⟨rfl, _, rfl⟩ | ⟨b, off, c, cur, rfl, rfl, _⟩ <;> rcases e2 with ⟨e, _, rfl⟩ | ⟨b', off', c', cur', e, rfl, _⟩
    · rfl
    · cases e
    · cases e
    · cases e; rfl
  subst hkk
  exact h ao cap w' (go k' q1 q2 q3) (q2.below (by have := h1; omega) fun b hb => (hk b hb).1)

theorem SvtSt.more {w : World} {rb : Nat} {tv : Value} {xs : List To.T} {inn : Bool} {m : Nat} {fin : Tx} {tot : R (List Tx)} {l : List Tx} {r q : List Tx} {x : Tx} {v v' : Value} {wr w4 w6 : World} (h : SvtSt w rb tv xs inn m fin tot l ([44] :: r) v wr) (hf : fin ≠ [44])
    (s4 : Step wr w4 (some rb)) (hrd : nameOf r = .ok x q) (h4 : Rd w4 rb tv xs q inn) (hrb : rb < w.heap.size) (hb : Below w.heap.size w4 w6) (hL : TR w6 w.heap.size w6.heap.size v' (l ++ [x])) : SvtSt w rb tv xs inn m fin tot (l ++ [x]) q v' w6 := by
  have hq := (nameOf_down r).lt hrd
  have h2 := h.many
  rw [List.length_cons] at h2
  have st6 : Step w w6 (some rb) := ⟨hb.os.trans (s4.os.trans h.step.os), hb.tape.trans (s4.tape.trans h.step.tape), hb.output.trans (s4.output.trans h.step.output), Nat.le_trans h.step.size (Nat.le_trans s4.size hb.size), fun k hk hk' => (hb.block k hk).trans ((s4.block k (Nat.lt_of_lt_of_le hk h.step.size) hk').trans (h.step.block k hk hk'))⟩
  refine ⟨?_, by rw [List.length_append, List.length_singleton]; omega, st6, h4.keep hb.size fun k hk => hb.block k (by omega), hL⟩
  rw [← h.plain, sevTail_comma nameOf_down hf, hrd]
  show _ = R.map _ (R.map _ _)
  rw [R.map_map]
  congr 1
  funext a
  simp

set_option maxRecDepth 100000 in
set_option maxHeartbeats 4000000 in
theorem sevt_t {rb : Nat} {tv : Value} {xs : List To.T} {inn : Bool} (fin : Tx) (hfin : fin ≠ []) (hf : fin ≠ [44]) {w : World} {ts : List Tx} (h : Rd w rb tv xs ts inn) :
    Calls Tryz.prog 130 #[.pointer (some ⟨rb, 0, none⟩), .string (bs fin), .func (.func 128) #[.pointer (some ⟨rb, 0, none⟩)] #[]] w (GotT w rb tv xs inn (several fin nameOf ts)) := by
  have hrb := h.lt
  have hle := h.le
  have hlen := h.len
  have H := Lib.hid (And.intro h (And.intro trivial (And.intro hrb (And.intro hle hlen))))
  have HF := Lib.hid (And.intro hfin hf)
  clear h hrb hle hlen hfin hf
  go_enter Tryz.func130, Tryz.ntmps130
  go_wp2_with fail
  by_cases hh : ts.head? = some fin
  · obtain ⟨r, rfl⟩ := head_form hh
    refine takes_yes H.out.1 HF.out.1 fun w1 hs1 h1 => ?_
    have X1 := Lib.hid (And.intro hs1 h1)
    clear hs1 h1 hh
    go_wp2_with fail
    go_ret
    rw [several_none]
    exact ⟨X1.out.1, X1.out.2, _, rfl, TR.nil _ _ _⟩
  · refine takes_no H.out.1 fin HF.out.1 hh fun w1 hb1 => ?_
    have HH := Lib.hid hh
    have X1 := Lib.hid hb1
    clear hh hb1
    go_wp2_with fail
    refine (name_g (H.out.1.later X1.out)).mono ?_
    rintro e w2 ⟨hs2, h2, hres⟩
    cases hrd : nameOf ts with
    | bad r =>
      rw [hrd] at hres h2
      subst hres
      go_wp2_with fail
      refine ⟨rfl, ?_⟩
      rw [several_first nameOf_down ts HH.out, hrd]
      exact ⟨(Step.of_below X1.out).trans hs2, h2, rfl⟩
    | ok x r =>
      rw [hrd] at hres h2
      obtain ⟨rfl, hxl⟩ := hres
      have hA := (Put.new w2 #[.string (bs x)] TS)
      have X2 := Lib.hid (And.intro hs2 (And.intro h2 (And.intro hrd (And.intro hA hxl))))
      clear hs2 h2 hrd hA hxl
      go_wp2_with (at_builtin; refine wpList_text _ rfl (.tmp 10) (.tmp 13) rfl (v := .slice none 0 0) (l := []) (lo := w.heap.size) (hi := w.heap.size) rfl (TR.nil _ _ _) X2.out.2.2.2.2 (y := .slice (some ⟨w2.heap.size, 0, none⟩) 1 1) rfl (Src.lit #[.string (bs x)] TS rfl rfl) (Nat.le_refl _) (Nat.le_trans (Nat.le_trans X1.out.size X2.out.1.size) X2.out.2.2.2.1.1.size) (by decide) ?_; intro ao cp w3 hL hB; have X3 := Lib.hid (And.intro hL hB); clear hL hB)
      have hst : SvtSt w rb tv xs inn ts.length fin (several fin nameOf ts) [x] r (.slice ao 1 cp) w3 := by
        have hq := (nameOf_down ts).lt X2.out.2.2.1
        have z1 := X1.out.size
        have z2 := X2.out.1.size
        have hrb := H.out.2.2.1
        have hB' := X3.out.2
        have zA := X2.out.2.2.2.1.2.2
        refine ⟨?_, by simp; omega, ?_, ((X2.out.2.1.later X2.out.2.2.2.1.1).keep hB'.size fun k hk => hB'.block k (by omega)), X3.out.1⟩
        · rw [several_first nameOf_down ts HH.out, X2.out.2.2.1]; rfl
        · have s2 := ((Step.of_below (row := some rb) X1.out).trans X2.out.1).trans (Step.of_below X2.out.2.2.2.1.1)
          exact ⟨hB'.os.trans s2.os, hB'.tape.trans s2.tape, hB'.output.trans s2.output, Nat.le_trans s2.size hB'.size, fun k hk hk' => (hB'.block k hk).trans (s2.block k hk hk')⟩
      have HS := Lib.hid hst
      clear hst X3 X2 X1 HH
      go_loopg [6] r.length (fun gk v6 wr => SvtAt w rb tv xs inn ts.length fin (several fin nameOf ts) gk v6 wr)
      case atStart => exact ⟨[x], r, rfl, HS.out⟩
      case round =>
        obtain ⟨l, ts1, rfl, hst⟩ := hrel
        obtain ⟨lo1, lc1, rfl⟩ := hst.list.form
        have HT := Lib.hid hst
        clear hst HS
        go_wp2_with fail
        by_cases hh : ts1.head? = some fin
        · obtain ⟨r1, rfl⟩ := head_form hh
          refine takes_yes HT.out.rd HF.out.1 fun w4 hs4 h4 => ?_
          have X4 := Lib.hid (And.intro hs4 h4)
          clear hs4 h4 hh
          go_wp2_with fail
          go_ret
          have hpl := HT.out.plain
          rw [show sevTail fin nameOf (fin :: r1) = .ok [] r1 by unfold sevTail; simp only; rw [if_pos trivial]] at hpl
          rw [← hpl]
          show GotT w rb tv xs inn (.ok (l ++ []) r1) _ _
          rw [List.append_nil]
          exact ⟨HT.out.step.trans X4.out.1, X4.out.2, _, rfl, TR.mono (TR.kept HT.out.list X4.out.1 H.out.2.2.1 (Nat.le_refl _)) (Nat.le_refl _) X4.out.1.size⟩
        · refine takes_no HT.out.rd fin HF.out.1 hh fun w4 hb4 => ?_
          have HH := Lib.hid hh
          have X4 := Lib.hid hb4
          clear hh hb4
          go_wp2_with fail
          by_cases hc : ts1.head? = some [44]
          · obtain ⟨r1, rfl⟩ := head_form hc
            refine takes_yes (HT.out.rd.later X4.out) (by decide) fun w5 hs5 h5 => ?_
            have X5 := Lib.hid (And.intro hs5 h5)
            clear hs5 h5 hc
            go_wp2_with (refine must_yes ?_)
            refine (name_g X5.out.2).mono ?_
            rintro e w6 ⟨hs6, h6, hres⟩
            have st6 := ((Step.of_below (row := some rb) X4.out).trans X5.out.1).trans hs6
            cases hrd : nameOf r1 with
            | bad q =>
              rw [hrd] at hres h6
              subst hres
              have X6 := Lib.hid (And.intro st6 (And.intro h6 hrd))
              clear st6 h6 hs6 hrd
              go_wp2_with fail
              refine ⟨rfl, ?_⟩
              rw [← HT.out.plain, sevTail_comma nameOf_down HF.out.2, X6.out.2.2]
              exact ⟨HT.out.step.trans X6.out.1, X6.out.2.1, rfl⟩
            | ok y q =>
              rw [hrd] at hres h6
              obtain ⟨rfl, hyl⟩ := hres
              have hA := (Put.new w6 #[.string (bs y)] TS)
              have hL7 := (TR.kept HT.out.list st6 H.out.2.2.1 (Nat.le_refl _)).later hA.1 st6.size
              have X6 := Lib.hid (And.intro st6 (And.intro h6 (And.intro hrd (And.intro hA (And.intro hyl hL7)))))
              have hm : (l.length + 1) * 16 ≤ 140737488351232 := by have := HT.out.many; have := H.out.2.2.2.1; have := H.out.2.2.2.2; rw [List.length_cons] at *; omega
              have HM := Lib.hid hm
              clear st6 h6 hs6 hrd hA hL7 hm hyl
              go_wp2_with (at_builtin; refine wpList_text _ rfl (.tmp 19) (.tmp 22) rfl (v := .slice lo1 l.length lc1) (l := l) (lo := w.heap.size) (hi := wr.heap.size) rfl X6.out.2.2.2.2.2 X6.out.2.2.2.2.1 (y := .slice (some ⟨w6.heap.size, 0, none⟩) 1 1) rfl (Src.lit #[.string (bs y)] TS rfl rfl) HT.out.step.size (Nat.le_trans X6.out.1.size X6.out.2.2.2.1.1.size) HM.out ?_; intro ao cp w7 hL hB; have X7 := Lib.hid (And.intro hL hB); clear hL hB)
              go_roundg q.length
              case measure => have := (nameOf_down r1).lt X6.out.2.2.1; rw [List.length_cons]; omega
              case rel => exact ⟨l ++ [y], q, rfl, HT.out.more HF.out.2 X6.out.1 X6.out.2.2.1 X6.out.2.1 H.out.2.2.1 ((X6.out.2.2.2.1.1.mono (Nat.le_trans HT.out.step.size X6.out.1.size)).trans X7.out.2) X7.out.1⟩
          · refine takes_no (HT.out.rd.later X4.out) [44] (by decide) hc fun w5 hb5 => ?_
            have X5 := Lib.hid (And.intro hc hb5)
            clear hc hb5
            go_wp2_with (refine must_no ?_)
            refine ⟨rfl, ?_⟩
            rw [← HT.out.plain, sevTail_bad ts1 HH.out X5.out.1]
            exact ⟨HT.out.step.trans (Step.of_below (X4.out.trans (X5.out.2.mono X4.out.size))), (HT.out.rd.later X4.out).later X5.out.2, rfl⟩
end Go.Proofs.YtcldcigopkfmmaaGreatDoor

/- Trees: the reader: a function. -/
namespace Go.Proofs.YtcldcigopkfmmaaGreatDoor
open Go.RowKit Go.My Go.Nd

theorem FR.mk {w : World} {lo m hi : Nat} {n : Tx} {ar : List Tx} {b : Ns} {va vb : Value} (hn : n.length ≤ 65536) (h1 : TR w lo m va ar) (h2 : LR w TN m hi vb b) (l1 : lo ≤ m) (l2 : m ≤ hi) : FR w lo hi (.agg #[.string (bs n), va, vb]) ⟨n, ar, b⟩ := by
  obtain ⟨F1, k1, r1⟩ := h1
  obtain ⟨F2, k2, r2⟩ := h2
  exact ⟨⟨⟨n, ar, b⟩, va, vb, F1, F2⟩, rfl, ⟨show n.length ≤ _ by omega, k1, k2⟩, rfl, r1.app r2 l1 l2⟩

theorem must_hit {α : Type} (s : Tx) (x : α) (q : List Tx) : must s x (s :: q) = .ok x q := by unfold must; simp only; rw [if_pos trivial]
theorem must_miss {α : Type} (s : Tx) (x : α) (q : List Tx) (h : q.head? ≠ some s) : must s x q = .bad q := by
  cases q with
  | nil => rfl
  | cons s' q' => unfold must; simp only; rw [if_neg (by intro e; subst e; exact h rfl)]
theorem func_b1 {ts q : List Tx} (h : nameOf ts = .bad q) : func ts = .bad q := by rw [func_is, h]; rfl
theorem func_b2 {ts q : List Tx} {s : Tx} (h : nameOf ts = .ok s q) (h2 : q.head? ≠ some [40]) : func ts = .bad q := by
  rw [func_is, h]
  simp only [R.then_, must_miss _ _ _ h2]
theorem func_3 {ts q : List Tx} {s : Tx} (h : nameOf ts = .ok s ([40] :: q)) : func ts = (several [41] nameOf q).then_ fun l r2 => (block (stm true) r2).map fun b => ⟨s, l, Ns.of b⟩ := by
  rw [func_is, h]
  simp only [R.then_, must_hit]
theorem func_b3 {ts q u : List Tx} {s : Tx} (h : nameOf ts = .ok s ([40] :: q)) (h2 : several [41] nameOf q = .bad u) : func ts = .bad u := by rw [func_3 h, h2]; rfl
theorem func_4 {ts q u : List Tx} {s : Tx} {l : List Tx} (h : nameOf ts = .ok s ([40] :: q)) (h2 : several [41] nameOf q = .ok l u) : func ts = (block (stm true) u).map fun b => ⟨s, l, Ns.of b⟩ := by rw [func_3 h, h2]; rfl

/-- What a call that reads a function does. -/
def GotF (w : World) (rb : Nat) (tv : Value) (xs : List To.T) (r : R Nd.Fn) (e : Ending) (w' : World) : Prop :=
  Step w w' (some rb) ∧ match r with | .ok f q => Rd w' rb tv xs q false ∧ ∃ v, e = .returned v ∧ FR w' w.heap.size w'.heap.size v f | .bad q => (∃ inn, Rd w' rb tv xs q inn) ∧ e = .panicked wrongChain

/-- In the middle: the result's cell c. -/
structure RF (w : World) (rb c : Nat) (w1 : World) : Prop where
  hc : c = w.heap.size
  hrb : rb < c
  st : Step w w1 (some rb)
  row : w1.heap[c]? = some (.cells #[.string ⟨#[]⟩, .slice none 0 0, .slice none 0 0] TFn (0, 0))
theorem RF.start {w : World} {rb : Nat} (h : rb < w.heap.size) : RF w rb w.heap.size (w.alloc (.cells #[.string ⟨#[]⟩, .slice none 0 0, .slice none 0 0] TFn)) :=
  ⟨rfl, h, Step.of_below (Put.new w _ TFn).1, (Put.new w _ TFn).2.1⟩
theorem RF.lt {w : World} {rb c : Nat} {w1 : World} (h : RF w rb c w1) : c < w1.heap.size := heap_lt h.row
theorem RF.step {w : World} {rb c : Nat} {w1 w2 : World} (h : RF w rb c w1) (hs : Step w1 w2 (some rb)) : RF w rb c w2 :=
  ⟨h.hc, h.hrb, h.st.trans hs, (hs.kept h.lt (Nat.ne_of_gt h.hrb)).trans h.row⟩
theorem RF.below {w : World} {rb c : Nat} {w1 w2 : World} (h : RF w rb c w1) (hs : Below w1.heap.size w1 w2) : RF w rb c w2 := h.step (Step.of_below hs)
theorem RF.put {w : World} {rb c : Nat} {w1 w2 : World} {b : Nat} {cs : Array Value} {T : TypeId} (h : RF w rb c w1) (hp : Put w1 w2 b cs T) (hb : c < b) : RF w rb c w2 :=
  ⟨h.hc, h.hrb, h.st.put hp (by have := h.hc; omega), (hp.oth c (by omega)).trans h.row⟩
theorem RF.bad {w : World} {rb c : Nat} {w1 : World} {tv : Value} {xs : List To.T} {inn : Bool} {r : List Tx} (h : RF w rb c w1) (h1 : Rd w1 rb tv xs r inn) : GotF w rb tv xs (.bad r) (.panicked wrongChain) w1 := ⟨h.st, ⟨_, h1⟩, rfl⟩

theorem fnVar (w : World) (c : Nat) (v0 v1 v2 : Value) (h : w.heap[c]? = some (.cells #[v0, v1, v2] TFn (0, 0))) : (loadVar 70 ⟨c, 0, none⟩).run Tryz.prog w = .ok (.agg #[v0, v1, v2]) w := by
  have c0 := cell_of_row w c 0 _ _ _ h
  have c1 := cell_of_row w c 1 _ _ _ h
  have c2 := cell_of_row w c 2 _ _ _ h
  simp at c0 c1 c2
  simp [loadVar, go_sem, c0, c1, c2]
theorem row3 {w : World} {c : Nat} {v0 v1 v2 : Value} {T : TypeId} (h : w.heap[c]? = some (.cells #[v0, v1, v2] T (0, 0))) :
    w.cell? ⟨c, 0, none⟩ = some v0 ∧ w.cell? ⟨c, 1, none⟩ = some v1 ∧ w.cell? ⟨c, 2, none⟩ = some v2 ∧ w.frozen? ⟨c, 0, none⟩ = false ∧ w.frozen? ⟨c, 1, none⟩ = false ∧ w.frozen? ⟨c, 2, none⟩ = false :=
  ⟨cell_of_row w c 0 _ _ _ h, cell_of_row w c 1 _ _ _ h, cell_of_row w c 2 _ _ _ h, frozen_of_row w c 0 _ _ h, frozen_of_row w c 1 _ _ h, frozen_of_row w c 2 _ _ h⟩
theorem Rd.set {w : World} {rb : Nat} {tv : Value} {xs : List To.T} {ts : List Tx} {inn : Bool} (h : Rd w rb tv xs ts inn) (b : Bool) :
    Put w (w.setCell ⟨rb, 2, none⟩ (.bool b)) rb #[tv, .int .i64 ((xs.length - ts.length : Nat) : Int), .bool b] 61 ∧ Rd (w.setCell ⟨rb, 2, none⟩ (.bool b)) rb tv xs ts b := by
  have hp : Put w (w.setCell ⟨rb, 2, none⟩ (.bool b)) rb #[tv, .int .i64 ((xs.length - ts.length : Nat) : Int), .bool b] 61 := Put.one h.row 2 _
  exact ⟨hp, hp.row, h.suf, h.toks.frame (by rw [hp.size]; exact Nat.le_refl _) fun b hb _ => hp.oth b (Nat.ne_of_lt hb), h.len, h.short⟩
theorem Put.stepRb {w w' : World} {rb : Nat} {cs : Array Value} {T : TypeId} (h : Put w w' rb cs T) : Step w w' (some rb) := h.step

set_option maxRecDepth 100000 in
set_option maxHeartbeats 4000000 in
theorem func_t {rb : Nat} {tv : Value} {xs : List To.T} {w : World} {ts : List Tx} (h : Rd w rb tv xs ts false) :
    Calls Tryz.prog 98 #[.pointer (some ⟨rb, 0, none⟩)] w (GotF w rb tv xs (func ts)) := by
  have R0 := RF.start h.lt
  have h0 := h.later (Put.new w #[.string ⟨#[]⟩, .slice none 0 0, .slice none 0 0] TFn).1
  obtain ⟨c, hc⟩ : ∃ c, c = w.heap.size := ⟨_, rfl⟩
  obtain ⟨wA, hwA⟩ : ∃ wA, wA = w.alloc (.cells #[.string ⟨#[]⟩, .slice none 0 0, .slice none 0 0] TFn) := ⟨_, rfl⟩
  rw [← hwA] at R0 h0
  rw [← hc] at R0
  have X0 := Lib.hid (And.intro R0 h0)
  clear h R0 h0
  go_enter Tryz.func98, Tryz.ntmps98
  go_upto_region 1 with fail
  rw [← hwA, ← hc]
  clear hwA hc
  go_wp2_with fail
  refine (name_g X0.out.2).mono ?_
  rintro e w1 ⟨hs1, h1, hres⟩
  cases hrd : nameOf ts with
  | bad q =>
    rw [hrd] at hres h1
    subst hres
    have X1 := Lib.hid (And.intro (X0.out.1.step hs1) (And.intro h1 hrd))
    clear hs1 h1 hrd
    go_wp2_with fail
    refine ⟨rfl, ?_⟩
    rw [func_b1 X1.out.2.2]
    exact X1.out.1.bad X1.out.2.1
  | ok s q =>
    rw [hrd] at hres h1
    obtain ⟨rfl, hsl⟩ := hres
    have hA := Put.new w1 #[.string (bs s), .slice none 0 0, .slice none 0 0] TFn
    obtain ⟨b3, hb3⟩ : ∃ b3, b3 = w1.heap.size := ⟨_, rfl⟩
    obtain ⟨w2, hw2⟩ : ∃ w2, w2 = w1.alloc (.cells #[.string (bs s), .slice none 0 0, .slice none 0 0] TFn) := ⟨_, rfl⟩
    rw [← hw2, ← hb3] at hA
    have hA1 := hA.1
    rw [hb3] at hA1
    have X2 := Lib.hid (And.intro (X0.out.1.step (hs1.trans (Step.of_below hA1))) (And.intro hA.2.1 (And.intro (h1.later hA1) (And.intro hrd (And.intro hsl (show c < b3 by have := X0.out.1.lt; have := hs1.size; omega))))))
    clear hA hA1 hs1 h1 hrd hsl
    go_upto_region 2 with fail
    rw [← hw2, ← hb3]
    clear hw2 hb3
    go_wp2_with fail
    by_cases hh : q.head? = some [40]
    · obtain ⟨q1, rfl⟩ := head_form hh
      refine takes_yes X2.out.2.2.1 (by decide) fun w3 hs3 h3 => ?_
      have hcb := X2.out.2.2.2.2.2
      have hrb := X2.out.1.hrb
      have X3 := Lib.hid (And.intro (X2.out.1.step hs3) (And.intro ((hs3.kept (heap_lt X2.out.2.1) (by omega)).trans X2.out.2.1) h3))
      clear hs3 h3 hh hcb hrb
      go_wp2_with (refine must_yes ?_)
      refine (sevt_t [41] (by decide) (by decide) X3.out.2.2).mono ?_
      rintro e w4 ⟨hs4, h4, hres⟩
      cases hrd : several [41] nameOf q1 with
      | bad u =>
        rw [hrd] at hres h4
        subst hres
        have X4 := Lib.hid (And.intro (X3.out.1.step hs4) (And.intro h4 hrd))
        clear hs4 h4 hrd
        go_wp2_with fail
        refine ⟨rfl, ?_⟩
        rw [func_b3 X2.out.2.2.2.1 X4.out.2.2]
        exact X4.out.1.bad X4.out.2.1
      | ok l u =>
        rw [hrd] at hres h4
        obtain ⟨v, rfl, hL⟩ := hres
        obtain ⟨a1, d1, rfl⟩ := hL.form
        have hcb := X2.out.2.2.2.2.2
        have hrb := X2.out.1.hrb
        have R4 := X3.out.1.step hs4
        have row4 := (hs4.kept (heap_lt X3.out.2.1) (by omega)).trans X3.out.2.1
        obtain ⟨x0, x1, x2, f0, f1, f2⟩ := row3 row4
        have hp5 : Put w4 (w4.setCell ⟨b3, 1, none⟩ (.slice a1 l.length d1)) b3 #[.string (bs s), .slice a1 l.length d1, .slice none 0 0] TFn := Put.one row4 1 _
        have hb3lt := heap_lt X3.out.2.1
        have hL5 : TR (w4.setCell ⟨b3, 1, none⟩ (.slice a1 l.length d1)) w3.heap.size w4.heap.size (.slice a1 l.length d1) l := hL.frame fun b q1 _ => hp5.oth b (by omega)
        have R5 := R4.put hp5 hcb
        have h5 := h4.put hp5 (by omega)
        obtain ⟨w5, hw5⟩ : ∃ w5, w5 = w4.setCell ⟨b3, 1, none⟩ (.slice a1 l.length d1) := ⟨_, rfl⟩
        have hrow5 := hp5.row
        have hz5 := hp5.size
        rw [← hw5] at R5 h5 hrow5 hL5 hz5
        obtain ⟨hp6, h6⟩ := h5.set true
        have R6 := R5.step hp6.step
        have hrow6 := (hp6.oth b3 (by omega)).trans hrow5
        have hL6 := hL5.frame fun b q1 _ => hp6.oth b (by have := R5.lt; have := X3.out.1.lt; omega)
        have hz6 := hp6.size
        obtain ⟨_, _, k2, _, fk2⟩ := h5.cell
        obtain ⟨w6, hw6⟩ : ∃ w6, w6 = w5.setCell ⟨rb, 2, none⟩ (.bool true) := ⟨_, rfl⟩
        rw [← hw6] at h6 R6 hrow6 hL6 hz6
        have X6 := Lib.hid (And.intro R6 (And.intro h6 (And.intro hrow6 (And.intro hL6 (And.intro hrd (And.intro (show w3.heap.size ≤ w4.heap.size from hs4.size) (And.intro (show w6.heap.size = w4.heap.size by omega) (show b3 < w3.heap.size from hb3lt))))))))
        clear R4 row4 hp5 hb3lt hL5 R5 h5 hrow5 hz5 hp6 h6 R6 hrow6 hL6 hz6 hs4 h4 hrd hL hcb hrb
        go_upto_region 4 with fail
        rw [← hw5]
        clear hw5 x0 x1 x2 f0 f1 f2
        go_upto_region 5 with fail
        rw [← hw6]
        clear hw6 k2 fk2
        go_wp2_with fail
        refine (block_t (ts := u) X6.out.2.1).mono ?_
        rintro e w7 ⟨hs7, h7, hres⟩
        cases hrd : block (stm true) u with
        | bad z =>
          rw [hrd] at hres h7
          subst hres
          have X7 := Lib.hid (And.intro (X6.out.1.step hs7) (And.intro h7 hrd))
          clear hs7 h7 hrd
          go_wp2_with fail
          refine ⟨rfl, ?_⟩
          rw [func_4 X2.out.2.2.2.1 X6.out.2.2.2.2.1, X7.out.2.2]
          exact X7.out.1.bad X7.out.2.1
        | ok bl z =>
          rw [hrd] at hres h7
          obtain ⟨v, rfl, hM⟩ := hres
          obtain ⟨m1, e1, rfl⟩ := hM.form
          have hcb := X2.out.2.2.2.2.2
          have hrb := X2.out.1.hrb
          have hb3lt := X6.out.2.2.2.2.2.2.2
          have hz34 := X6.out.2.2.2.2.2.1
          have hz46 := X6.out.2.2.2.2.2.2.1
          have R7 := X6.out.1.step hs7
          have row7 := (hs7.kept (heap_lt X6.out.2.2.1) (by omega)).trans X6.out.2.2.1
          obtain ⟨x0, x1, x2, f0, f1, f2⟩ := row3 row7
          have hp8 : Put w7 (w7.setCell ⟨b3, 2, none⟩ (.slice m1 (Ns.of bl).len e1)) b3 #[.string (bs s), .slice a1 l.length d1, .slice m1 (Ns.of bl).len e1] TFn := Put.one row7 2 _
          have hc3 := X3.out.1.lt
          have A7 : TR w7 w3.heap.size w4.heap.size (.slice a1 l.length d1) l := X6.out.2.2.2.1.kept hs7 (by omega) (by omega)
          have A8 := A7.frame fun b q1 _ => hp8.oth b (by omega)
          have M8 := LR.frame hM fun b q1 _ => hp8.oth b (by omega)
          have R8 := R7.put hp8 hcb
          have h8 := h7.put hp8 (by omega)
          have hrow8 := hp8.row
          have hz8 := hp8.size
          obtain ⟨w8, hw8⟩ : ∃ w8, w8 = w7.setCell ⟨b3, 2, none⟩ (.slice m1 (Ns.of bl).len e1) := ⟨_, rfl⟩
          rw [← hw8] at A8 M8 R8 h8 hrow8 hz8
          obtain ⟨hp9, h9⟩ := h8.set false
          obtain ⟨_, _, k2, _, fk2⟩ := h8.cell
          have R9 := R8.step hp9.step
          have hrow9 := (hp9.oth b3 (by omega)).trans hrow8
          have A9 := A8.frame fun b q1 _ => hp9.oth b (by omega)
          have M9 := LR.frame M8 fun b q1 _ => hp9.oth b (by omega)
          have hz9 := hp9.size
          obtain ⟨w9, hw9⟩ : ∃ w9, w9 = w8.setCell ⟨rb, 2, none⟩ (.bool false) := ⟨_, rfl⟩
          rw [← hw9] at h9 R9 hrow9 A9 M9 hz9
          have hF9 : FR w9 (c + 1) w9.heap.size (.agg #[.string (bs s), .slice a1 l.length d1, .slice m1 (Ns.of bl).len e1]) ⟨s, l, Ns.of bl⟩ := FR.mk X2.out.2.2.2.2.1 (A9.mono (show c + 1 ≤ w3.heap.size by omega) (show w4.heap.size ≤ w6.heap.size by omega)) (M9.mono (Nat.le_refl _) (show w7.heap.size ≤ w9.heap.size by omega)) (by omega) (by have := hs7.size; omega)
          obtain ⟨y0, y1, y2, g0, g1, g2⟩ := row3 R9.row
          obtain ⟨z0, z1, z2, _, _, _⟩ := row3 hrow9
          have X9 := Lib.hid (And.intro R9 (And.intro h9 (And.intro hF9 hrd)))
          clear hcb hrb hb3lt hz34 hz46 R7 row7 hp8 A7 A8 M8 R8 h8 hrow8 hz8 hp9 h9 R9 hrow9 A9 M9 hz9 hF9 hrd hs7 h7 hM hc3
          go_upto_region 6 with fail
          rw [← hw8]
          clear hw8 x0 x1 x2 f0 f1 f2
          go_upto_region 7 with fail
          rw [← hw9]
          clear hw9 k2 fk2
          go_wp2_with fail
          have hp := put3 X9.out.1.row (.string (bs s)) (.slice a1 l.length d1) (.slice m1 (Ns.of bl).len e1)
          refine bodyPost_ret (results_cell1 rfl _ _ _ rfl (fnVar _ c _ _ _ hp.row)) rfl ?_
          rw [func_4 X2.out.2.2.2.1 X6.out.2.2.2.2.1, X9.out.2.2.2]
          have hcw := X9.out.1.hc
          exact ⟨X9.out.1.st.put hp (by omega), X9.out.2.1.put hp X9.out.1.hrb, _, rfl, (X9.out.2.2.1.frame fun b q1 _ => hp.oth b (by omega)).mono (by omega) (by rw [hp.size]; exact Nat.le_refl _)⟩
    · refine takes_no X2.out.2.2.1 [40] (by decide) hh fun w3 hb3 => ?_
      have X3 := Lib.hid (And.intro hh hb3)
      clear hh hb3
      go_wp2_with (refine must_no ?_)
      refine ⟨rfl, ?_⟩
      rw [func_b2 X2.out.2.2.2.1 X3.out.1]
      exact (X2.out.1.below X3.out.2).bad (X2.out.2.2.1.later X3.out.2)
end Go.Proofs.YtcldcigopkfmmaaGreatDoor

/- Trees: how deep nodes are. -/
namespace Go.My
open Go.Nd
theorem NodeAt.frame {w w' : World} {S : Nat → Prop} {tw : Bool} {b off : Nat} {x : Nd} {v1 v2 v3 : Value} (h : NodeAt w S tw b off x v1 v2 v3) (hS : S b) (hs : ∀ b, S b → b < w.heap.size → w'.heap[b]? = w.heap[b]?) : NodeAt w' S tw b off x v1 v2 v3 := by
  have hlt := World.block_lt_of_cell? w _ h.d0
  have e : ∀ o, w'.cell? ⟨b, o, none⟩ = w.cell? ⟨b, o, none⟩ := fun o => World.cell?_of_block (hs b hS hlt)
  exact ⟨h.kind, h.text, (e _).trans h.d0, (e _).trans h.d1, (e _).trans h.d2, (e _).trans h.d3, (e _).trans h.d4, h.l.frame hs, h.body.frame hs, h.els.frame hs⟩
theorem items_cons_drop (xs : Ns) (i : Nat) (hi : i < xs.items.length) : xs.items.drop i = xs.items[i] :: xs.items.drop (i + 1) := List.drop_eq_getElem_cons hi

/-- How deep a list of nodes is, from a place on. -/
def deepL (wrap : Int → Int) : List Nd → Int
  | [] => 0
  | x :: r => max (wrap (1 + max (max (deep wrap x.l) (deep wrap x.body)) (deep wrap x.els))) (deepL wrap r)
theorem deep_items (wrap : Int → Int) (xs : Ns) : deep wrap xs = deepL wrap xs.items := by
  induction xs with
  | nil => rfl
  | cons k t l b e r _ _ _ ihr => rw [Ns.items_cons, deepL, ← ihr]; rfl
end Go.My
namespace Go.Proofs.YtcldcigopkfmmaaGreatDoor
open Go.RowKit Go.My Go.Nd

def wrapI : Int → Int := IntKind.i64.wrap

def DeepAt (w : World) (xs : Ns) (gk : Nat) (v2 v7 : Value) (wr : World) : Prop :=
  ∃ (i : Nat) (n : Int), i ≤ xs.items.length ∧ gk = xs.items.length - i ∧ v7 = .int .i64 (i : Int) ∧ v2 = .int .i64 n ∧ 0 ≤ n ∧ max n (deepL wrapI (xs.items.drop i)) = deepL wrapI xs.items ∧ Below w.heap.size w wr

theorem ite_max (a b : Int) : (if a < b then b else a) = max a b := by split <;> omega
theorem max_assoc3 (a b c : Int) : max a (max b c) = max (max a b) c := by omega
theorem max_step {n W R D : Int} (h : max n (max W R) = D) : max (max n W) R = D := by omega

/-- What the loop asks of the lists in a node. -/
def DeepSaid (tw : Bool) (x : Ns) : Prop := ∀ (w : World) (B : Nat) (v : Value), B ≤ w.heap.size → Nodes w (· < B) tw v x → Calls Tryz.prog 103 #[v] w fun e w' => e = .returned (.int .i64 (deep wrapI x)) ∧ Below w.heap.size w w'

theorem deep_arm {tw : Bool} {x : Ns} (hI : DeepSaid tw x) {w4 w' : World} {B : Nat} {v : Value} (hB : B ≤ w4.heap.size) (hN : Nodes w4 (· < B) tw v x) {X : Prop} (hS : X ∧ Below w4.heap.size w4 w') :
    Calls Tryz.prog 103 #[v] w' fun e w'' => e = .returned (.int .i64 (deep wrapI x)) ∧ Below w'.heap.size w' w'' :=
  hI w' B v (Nat.le_trans hB hS.2.size) (hN.below (hS.2.mono hB))

theorem keep3 {w4 w' w'' : World} {bx : Nat} {v1 v2 v3 : Value} (hlt : bx < w4.heap.size) (hS : (w'.cell? ⟨bx, 2, none⟩ = some v1 ∧ w'.cell? ⟨bx, 3, none⟩ = some v2 ∧ w'.cell? ⟨bx, 4, none⟩ = some v3) ∧ Below w4.heap.size w4 w') (hk : Below w'.heap.size w' w'') :
    (w''.cell? ⟨bx, 2, none⟩ = some v1 ∧ w''.cell? ⟨bx, 3, none⟩ = some v2 ∧ w''.cell? ⟨bx, 4, none⟩ = some v3) ∧ Below w4.heap.size w4 w'' := by
  obtain ⟨⟨h2, h3, h4⟩, hb⟩ := hS
  have e : ∀ o, w''.cell? ⟨bx, o, none⟩ = w'.cell? ⟨bx, o, none⟩ := fun o => World.cell?_of_block (hk.block bx (Nat.lt_of_lt_of_le hlt hb.size))
  exact ⟨⟨(e _).trans h2, (e _).trans h3, (e _).trans h4⟩, hb.trans (hk.mono hb.size)⟩

set_option maxHeartbeats 4000000 in
theorem deep_said (tw : Bool) : ∀ xs, DeepSaid tw xs := by
  refine Ns.each fun xs ih w B v hB hv => ?_
  obtain ⟨a, c, rfl, hr, hc⟩ := hv.open_
  have HI := Lib.hid ih
  have HV := Lib.hid hv
  have HC := Lib.hid hc
  have l0 : (0 : Int) ≤ (xs.items.length : Int) := by omega
  have l1 : (xs.items.length : Int) ≤ 140737488351232 := by have := hr.2.2.1; omega
  clear ih hv hc hr
  go_enter Tryz.func103, Tryz.ntmps103
  go_wp2_with fail
  go_loopg [2, 7] xs.items.length (fun gk v2 v7 wr => DeepAt w xs gk v2 v7 wr)
  case atStart => exact ⟨0, 0, Nat.zero_le _, rfl, rfl, rfl, Int.le_refl _, by rw [List.drop_zero, ← deep_items]; have := deep_nonneg wrapI xs; omega, Below.refl _ _⟩
  case round =>
    obtain ⟨i, n, hi, rfl, rfl, rfl, hn, hd, hb⟩ := hrel
    have i0 : (0 : Int) ≤ (i : Int) := by omega
    by_cases hlt : i < xs.items.length
    · have i1 : (i : Int) < (xs.items.length : Int) := by omega
      obtain ⟨b, off, v1, v2, v3, rfl, hS, hN⟩ := HC.out i hlt
      have hN' := hN.frame hS fun k hk _ => hb.block k (Nat.lt_of_lt_of_le hk hB)
      obtain ⟨x, hx⟩ : ∃ x, x = xs.items[i] := ⟨_, rfl⟩
      rw [← hx] at hN'
      obtain ⟨kd, tt, xl, xb, xe⟩ := x
      have d0 := hN'.d0
      have d1 := hN'.d1
      have d2 := hN'.d2
      have d3 := hN'.d3
      have d4 := hN'.d4
      obtain ⟨a1, c1, rfl, s1, m1⟩ := hN'.l
      obtain ⟨a2, c2, rfl, s2, m2⟩ := hN'.body
      obtain ⟨a3, c3, rfl, s3, m3⟩ := hN'.els
      simp only at d0 d1 d2 d3 d4
      have n1 : Nodes wr (· < B) tw (.slice a1 xl.len c1) xl := ⟨a1, c1, rfl, s1, m1⟩
      have n2 : Nodes wr (· < B) tw (.slice a2 xb.len c2) xb := ⟨a2, c2, rfl, s2, m2⟩
      have n3 : Nodes wr (· < B) tw (.slice a3 xe.len c3) xe := ⟨a3, c3, rfl, s3, m3⟩
      have hBr : B ≤ wr.heap.size := Nat.le_trans hB hb.size
      have hA := Below.alloc (Below.refl wr.heap.size wr) (Nat.le_refl _) (.cells #[.int .u8 (kd : Int), .string (tx tt), .slice a1 xl.len c1, .slice a2 xb.len c2, .slice a3 xe.len c3] 74)
      have hI := HI.out _ (List.getElem_mem hlt)
      rw [← hx] at hI
      have hdr := items_cons_drop xs i hlt
      have Y := Lib.hid (And.intro hb (And.intro hd (And.intro hx (And.intro hdr (And.intro (n1.below (hA.mono hBr)) (And.intro (n2.below (hA.mono hBr)) (And.intro (n3.below (hA.mono hBr)) (And.intro hA (And.intro hBr hI)))))))))
      clear hN hN' s1 s2 s3 m1 m2 m3 n1 n2 n3 hb hd hx hdr hA hBr hI hS
      go_upto_region 4 with fail
      obtain ⟨bx, hbx⟩ : ∃ bx, bx = wr.heap.size := ⟨_, rfl⟩
      obtain ⟨w4, hw4⟩ : ∃ w4, w4 = wr.alloc (.cells #[.int .u8 (kd : Int), .string (tx tt), .slice a1 xl.len c1, .slice a2 xb.len c2, .slice a3 xe.len c3] 74) := ⟨_, rfl⟩
      have hnew : w4.heap[bx]? = some (.cells #[.int .u8 (kd : Int), .string (tx tt), .slice a1 xl.len c1, .slice a2 xb.len c2, .slice a3 xe.len c3] 74 (0, 0)) := by rw [hw4, hbx]; exact heap_alloc_new wr _
      have hlt4 : bx < w4.heap.size := (Array.getElem?_eq_some_iff.1 hnew).1
      have e2 : w4.cell? ⟨bx, 2, none⟩ = some (.slice a1 xl.len c1) := cell_of_row w4 bx 2 _ _ _ hnew
      have e3 : w4.cell? ⟨bx, 3, none⟩ = some (.slice a2 xb.len c2) := cell_of_row w4 bx 3 _ _ _ hnew
      have e4 : w4.cell? ⟨bx, 4, none⟩ = some (.slice a3 xe.len c3) := cell_of_row w4 bx 4 _ _ _ hnew
      rw [← hbx, ← hw4]
      rw [← hw4] at Y
      have HX := Lib.hid hbx
      clear hw4 hnew d0 d1 d2 d3 d4 hbx
      go_region_held3 (fun w' => (w'.cell? ⟨bx, 2, none⟩ = some (.slice a1 xl.len c1) ∧ w'.cell? ⟨bx, 3, none⟩ = some (.slice a2 xb.len c2) ∧ w'.cell? ⟨bx, 4, none⟩ = some (.slice a3 xe.len c3)) ∧ Below w4.heap.size w4 w')
        (first | assumption | exact ⟨⟨e2, e3, e4⟩, (Below.refl _ _).drew⟩ | exact keep3 hlt4 (by assumption) (by assumption))
        (first
          | (go_at_call_of 103 (Value.slice a1 xl.len c1); refine (deep_arm Y.out.2.2.2.2.2.2.2.2.2.1 (Nat.le_trans Y.out.2.2.2.2.2.2.2.2.1 Y.out.2.2.2.2.2.2.2.1.size) Y.out.2.2.2.2.1 (by assumption)).mono ?_; rintro e w'' ⟨rfl, hk⟩)
          | (go_at_call_of 103 (Value.slice a2 xb.len c2); refine (deep_arm Y.out.2.2.2.2.2.2.2.2.2.2.1 (Nat.le_trans Y.out.2.2.2.2.2.2.2.2.1 Y.out.2.2.2.2.2.2.2.1.size) Y.out.2.2.2.2.2.1 (by assumption)).mono ?_; rintro e w'' ⟨rfl, hk⟩)
          | (go_at_call_of 103 (Value.slice a3 xe.len c3); refine (deep_arm Y.out.2.2.2.2.2.2.2.2.2.2.2 (Nat.le_trans Y.out.2.2.2.2.2.2.2.2.1 Y.out.2.2.2.2.2.2.2.1.size) Y.out.2.2.2.2.2.2.1 (by assumption)).mono ?_; rintro e w'' ⟨rfl, hk⟩))
      rename_i hH
      have Z := Lib.hid hH.2
      clear hH
      try simp only [ite_max]
      obtain ⟨z, hz⟩ : ∃ z, z = max n (IntKind.i64.wrap (1 + max (max (deep wrapI xl) (deep wrapI xb)) (deep wrapI xe))) := ⟨_, rfl⟩
      rw [← hz]
      have HZ := Lib.hid hz
      clear hz
      generalize max (max (deep wrapI xl) (deep wrapI xb)) (deep wrapI xe) = m3
      generalize IntKind.i64.wrap (1 + m3) = m4
      go_wp2_with fail
      go_roundg (xs.items.length - (i + 1))
      case measure => omega
      case rel =>
        refine ⟨i + 1, _, hlt, rfl, by go_num, rfl, ?_, ?_, ?_⟩
        · have := HZ.out; omega
        · rw [HZ.out]
          have hd := Y.out.2.1
          have hx := Y.out.2.2.1
          rw [Y.out.2.2.2.1, ← hx] at hd
          simp only [deepL] at hd
          exact max_step hd
        · exact (Y.out.1.trans (Y.out.2.2.2.2.2.2.2.1.mono Y.out.1.size)).trans (Z.out.mono (Nat.le_trans Y.out.1.size Y.out.2.2.2.2.2.2.2.1.size))
    · obtain rfl : i = xs.items.length := by omega
      clear hlt
      go_wp2_with fail
      go_ret
      exact ⟨by rw [deep_items, ← hd, List.drop_length]; simp [deepL]; omega, hb⟩

/-- The document's one. -/
def RDeepSaid (tw : Bool) (x : Ns) : Prop := ∀ (w : World) (B : Nat) (v : Value), B ≤ w.heap.size → Nodes w (· < B) tw v x → Calls Tryz.prog 112 #[v] w fun e w' => e = .returned (.int .i64 (deep wrapI x)) ∧ Below w.heap.size w w'

theorem rdeep_arm {tw : Bool} {x : Ns} (hI : RDeepSaid tw x) {w4 w' : World} {B : Nat} {v : Value} (hB : B ≤ w4.heap.size) (hN : Nodes w4 (· < B) tw v x) {X : Prop} (hS : X ∧ Below w4.heap.size w4 w') :
    Calls Tryz.prog 112 #[v] w' fun e w'' => e = .returned (.int .i64 (deep wrapI x)) ∧ Below w'.heap.size w' w'' :=
  hI w' B v (Nat.le_trans hB hS.2.size) (hN.below (hS.2.mono hB))

theorem keepAt {w4 w' w'' : World} {bx o2 o3 o4 : Nat} {v1 v2 v3 : Value} (hlt : bx < w4.heap.size) (hS : (w'.cell? ⟨bx, o2, none⟩ = some v1 ∧ w'.cell? ⟨bx, o3, none⟩ = some v2 ∧ w'.cell? ⟨bx, o4, none⟩ = some v3) ∧ Below w4.heap.size w4 w') (hk : Below w'.heap.size w' w'') :
    (w''.cell? ⟨bx, o2, none⟩ = some v1 ∧ w''.cell? ⟨bx, o3, none⟩ = some v2 ∧ w''.cell? ⟨bx, o4, none⟩ = some v3) ∧ Below w4.heap.size w4 w'' := by
  obtain ⟨⟨h2, h3, h4⟩, hb⟩ := hS
  have e : ∀ o, w''.cell? ⟨bx, o, none⟩ = w'.cell? ⟨bx, o, none⟩ := fun o => World.cell?_of_block (hk.block bx (Nat.lt_of_lt_of_le hlt hb.size))
  exact ⟨⟨(e _).trans h2, (e _).trans h3, (e _).trans h4⟩, hb.trans (hk.mono hb.size)⟩

set_option maxHeartbeats 4000000 in
theorem rdeep_said (tw : Bool) : ∀ xs, RDeepSaid tw xs := by
  refine Ns.each fun xs ih w B v hB hv => ?_
  obtain ⟨a, c, rfl, hr, hc⟩ := hv.open_
  have HI := Lib.hid ih
  have HC := Lib.hid hc
  have l0 : (0 : Int) ≤ (xs.items.length : Int) := by omega
  have l1 : (xs.items.length : Int) ≤ 140737488351232 := by have := hr.2.2.1; omega
  clear ih hv hc hr
  go_enter Tryz.func112, Tryz.ntmps112
  go_wp2_with fail
  go_loopg [3, 4] xs.items.length (fun gk v2 v7 wr => DeepAt w xs gk v2 v7 wr)
  case atStart => exact ⟨0, 0, Nat.zero_le _, rfl, rfl, rfl, Int.le_refl _, by rw [List.drop_zero, ← deep_items]; have := deep_nonneg wrapI xs; omega, Below.refl _ _⟩
  case round =>
    obtain ⟨i, n, hi, rfl, rfl, rfl, hn, hd, hb⟩ := hrel
    have i0 : (0 : Int) ≤ (i : Int) := by omega
    by_cases hlt : i < xs.items.length
    · have i1 : (i : Int) < (xs.items.length : Int) := by omega
      obtain ⟨b, off, v1, v2, v3, rfl, hS, hN⟩ := HC.out i hlt
      have hN' := hN.frame hS fun k hk _ => hb.block k (Nat.lt_of_lt_of_le hk hB)
      obtain ⟨x, hx⟩ : ∃ x, x = xs.items[i] := ⟨_, rfl⟩
      rw [← hx] at hN'
      obtain ⟨kd, tt, xl, xb, xe⟩ := x
      have d2 := hN'.d2
      have d3 := hN'.d3
      have d4 := hN'.d4
      obtain ⟨a1, c1, rfl, s1, m1⟩ := hN'.l
      obtain ⟨a2, c2, rfl, s2, m2⟩ := hN'.body
      obtain ⟨a3, c3, rfl, s3, m3⟩ := hN'.els
      simp only at d2 d3 d4
      have n1 : Nodes wr (· < B) tw (.slice a1 xl.len c1) xl := ⟨a1, c1, rfl, s1, m1⟩
      have n2 : Nodes wr (· < B) tw (.slice a2 xb.len c2) xb := ⟨a2, c2, rfl, s2, m2⟩
      have n3 : Nodes wr (· < B) tw (.slice a3 xe.len c3) xe := ⟨a3, c3, rfl, s3, m3⟩
      have hBr : B ≤ wr.heap.size := Nat.le_trans hB hb.size
      have hbx : b < wr.heap.size := Nat.lt_of_lt_of_le hS hBr
      have hI := HI.out _ (List.getElem_mem hlt)
      rw [← hx] at hI
      have hdr := items_cons_drop xs i hlt
      have Y := Lib.hid (And.intro hb (And.intro hd (And.intro hx (And.intro hdr (And.intro n1 (And.intro n2 (And.intro n3 (And.intro hBr hI))))))))
      clear hN hN' s1 s2 s3 m1 m2 m3 n1 n2 n3 hb hd hx hdr hBr hI hS
      go_upto_region 5 with fail
      go_region_held3 (fun w' => (w'.cell? ⟨b, off + i * 5 + 2, none⟩ = some (.slice a1 xl.len c1) ∧ w'.cell? ⟨b, off + i * 5 + 3, none⟩ = some (.slice a2 xb.len c2) ∧ w'.cell? ⟨b, off + i * 5 + 4, none⟩ = some (.slice a3 xe.len c3)) ∧ Below wr.heap.size wr w')
        (first | assumption | exact ⟨⟨d2, d3, d4⟩, (Below.refl _ _).drew⟩ | exact keepAt hbx (by assumption) (by assumption))
        (first
          | (go_at_call_of 112 (Value.slice a1 xl.len c1); refine (rdeep_arm Y.out.2.2.2.2.2.2.2.2.1 Y.out.2.2.2.2.2.2.2.1 Y.out.2.2.2.2.1 (by assumption)).mono ?_; rintro e w'' ⟨rfl, hk⟩)
          | (go_at_call_of 112 (Value.slice a2 xb.len c2); refine (rdeep_arm Y.out.2.2.2.2.2.2.2.2.2.1 Y.out.2.2.2.2.2.2.2.1 Y.out.2.2.2.2.2.1 (by assumption)).mono ?_; rintro e w'' ⟨rfl, hk⟩)
          | (go_at_call_of 112 (Value.slice a3 xe.len c3); refine (rdeep_arm Y.out.2.2.2.2.2.2.2.2.2.2 Y.out.2.2.2.2.2.2.2.1 Y.out.2.2.2.2.2.2.1 (by assumption)).mono ?_; rintro e w'' ⟨rfl, hk⟩))
      rename_i hH
      have Z := Lib.hid hH.2
      clear hH
      try simp only [ite_max]
      obtain ⟨z, hz⟩ : ∃ z, z = max n (IntKind.i64.wrap (1 + max (deep wrapI xl) (max (deep wrapI xb) (deep wrapI xe)))) := ⟨_, rfl⟩
      rw [← hz]
      have HZ := Lib.hid hz
      clear hz
      generalize max (deep wrapI xl) (max (deep wrapI xb) (deep wrapI xe)) = m3
      generalize IntKind.i64.wrap (1 + m3) = m4
      go_wp2_with fail
      go_roundg (xs.items.length - (i + 1))
      case measure => omega
      case rel =>
        refine ⟨i + 1, _, hlt, rfl, by go_num, rfl, ?_, ?_, ?_⟩
        · have := HZ.out; omega
        · rw [HZ.out, max_assoc3]
          have hd := Y.out.2.1
          have hx := Y.out.2.2.1
          rw [Y.out.2.2.2.1, ← hx] at hd
          simp only [deepL] at hd
          exact max_step hd
        · exact Y.out.1.trans (Z.out.mono Y.out.1.size)
    · obtain rfl : i = xs.items.length := by omega
      clear hlt
      go_wp2_with fail
      go_ret
      exact ⟨by rw [deep_items, ← hd, List.drop_length]; simp [deepL]; omega, hb⟩
end Go.Proofs.YtcldcigopkfmmaaGreatDoor

/- Trees: is there one of a list of nodes for which a function says yes; is a number too long. -/
namespace Go.Proofs.YtcldcigopkfmmaaGreatDoor
open Go.RowKit Go.My Go.Nd

/-- A function of a node, asked at any later world. -/
def Asked (tw : Bool) (B : Nat) (fn : FuncId) (p : Nd → Bool) (x : Nd) : Prop :=
  ∀ (w' : World) (a1 a2 a3 : Option Addr) (c1 c2 c3 : Nat), B ≤ w'.heap.size → Nodes w' (· < B) tw (.slice a1 x.l.len c1) x.l → Nodes w' (· < B) tw (.slice a2 x.body.len c2) x.body → Nodes w' (· < B) tw (.slice a3 x.els.len c3) x.els → x.kind < 256 → x.text.length ≤ 140737488351232 →
    Calls Tryz.prog fn #[.agg #[.int .u8 (x.kind : Int), .string (tx x.text), .slice a1 x.l.len c1, .slice a2 x.body.len c2, .slice a3 x.els.len c3]] w' fun e w'' => e = .returned (.bool (p x)) ∧ Below w'.heap.size w' w''

def IndexSaid (w : World) (b : Bool) (e : Ending) (w' : World) : Prop := ∃ n : Int, e = .returned (.int .i64 n) ∧ (decide (0 ≤ n)) = b ∧ Below w.heap.size w w'

def IndexAt (w : World) (xs : Ns) (p : Nd → Bool) (gk : Nat) (v8 : Value) (wr : World) : Prop :=
  ∃ i : Nat, i ≤ xs.items.length ∧ gk = xs.items.length - i ∧ v8 = .int .i64 (i : Int) ∧ (xs.items.drop i).any p = xs.items.any p ∧ Below w.heap.size w wr

set_option maxRecDepth 100000 in
set_option maxHeartbeats 4000000 in
theorem index_said {tw : Bool} {xs : Ns} {fn : Nat} {p : Nd → Bool} {w : World} {B : Nat} {v : Value} (hB : B ≤ w.heap.size) (hv : Nodes w (· < B) tw v xs) (hf : ∀ x ∈ xs.items, Asked tw B fn p x) (hcf : ∀ (args : Array Value) (wx : World), (callFunc fn args).run Tryz.prog wx = .ok (.enter fn args) wx) :
    Calls Tryz.prog 152 #[v, .func (.func fn) #[] #[]] w (IndexSaid w (xs.items.any p)) := by
  obtain ⟨a, c, rfl, hr, hc⟩ := hv.open_
  have HF := Lib.hid hf
  have HC := Lib.hid hc
  have l0 : (0 : Int) ≤ (xs.items.length : Int) := by omega
  have l1 : (xs.items.length : Int) ≤ 140737488351232 := by have := hr.2.2.1; omega
  clear hv hc hr hf
  go_enter Tryz.func152, Tryz.ntmps152
  go_wp2_with fail
  go_loopg [8] xs.items.length (fun gk v8 wr => IndexAt w xs p gk v8 wr)
  case atStart => exact ⟨0, Nat.zero_le _, rfl, rfl, rfl, Below.refl _ _⟩
  case round =>
    obtain ⟨i, hi, rfl, rfl, hd, hb⟩ := hrel
    have i0 : (0 : Int) ≤ (i : Int) := by omega
    by_cases hlt : i < xs.items.length
    · have i1 : (i : Int) < (xs.items.length : Int) := by omega
      obtain ⟨b, off, v1, v2, v3, rfl, hS, hN⟩ := HC.out i hlt
      have hN' := hN.frame hS fun k hk _ => hb.block k (Nat.lt_of_lt_of_le hk hB)
      obtain ⟨x, hx⟩ : ∃ x, x = xs.items[i] := ⟨_, rfl⟩
      rw [← hx] at hN'
      have hA := HF.out _ (List.getElem_mem hlt)
      rw [← hx] at hA
      have hdr := items_cons_drop xs i hlt
      rw [← hx] at hdr
      obtain ⟨kd, tt, xl, xb, xe⟩ := x
      have d0 := hN'.d0
      have d1 := hN'.d1
      have d2 := hN'.d2
      have d3 := hN'.d3
      have d4 := hN'.d4
      obtain ⟨a1, c1, rfl, s1, m1⟩ := hN'.l
      obtain ⟨a2, c2, rfl, s2, m2⟩ := hN'.body
      obtain ⟨a3, c3, rfl, s3, m3⟩ := hN'.els
      simp only at d0 d1 d2 d3 d4
      have Y := Lib.hid (And.intro hb (And.intro hd (And.intro hdr (hA wr a1 a2 a3 c1 c2 c3 (Nat.le_trans hB hb.size) ⟨a1, c1, rfl, s1, m1⟩ ⟨a2, c2, rfl, s2, m2⟩ ⟨a3, c3, rfl, s3, m3⟩ hN'.kind hN'.text))))
      clear hN hN' s1 s2 s3 m1 m2 m3 hb hd hx hdr hA hS
      go_wp2_with fail
      refine Y.out.2.2.2.mono ?_
      rintro e w' ⟨rfl, hk⟩
      have K := Lib.hid (Y.out.1.trans (hk.mono Y.out.1.size))
      clear hk
      cases hp : p ⟨kd, tt, xl, xb, xe⟩ with
      | true =>
        have HP := Lib.hid hp
        clear hp
        go_wp2_with fail
        go_ret
        refine ⟨(i : Int), rfl, ?_, K.out⟩
        have hd := Y.out.2.1
        rw [Y.out.2.2.1, List.any_cons, HP.out] at hd
        rw [← hd]; simp
      | false =>
        have HP := Lib.hid hp
        clear hp
        go_wp2_with fail
        go_roundg (xs.items.length - (i + 1))
        case measure => omega
        case rel =>
          refine ⟨i + 1, hlt, rfl, by go_num, ?_, K.out⟩
          have hd := Y.out.2.1
          rw [Y.out.2.2.1, List.any_cons, HP.out, Bool.false_or] at hd
          exact hd
    · obtain rfl : i = xs.items.length := by omega
      clear hlt
      go_wp2_with fail
      go_ret
      exact ⟨-1, rfl, by rw [← hd, List.drop_length]; rfl, hb⟩

set_option maxRecDepth 100000 in
set_option maxHeartbeats 4000000 in
theorem contains_said {tw : Bool} {xs : Ns} {fn : Nat} {p : Nd → Bool} {w : World} {B : Nat} {v : Value} (hB : B ≤ w.heap.size) (hv : Nodes w (· < B) tw v xs) (hf : ∀ x ∈ xs.items, Asked tw B fn p x) (hcf : ∀ (args : Array Value) (wx : World), (callFunc fn args).run Tryz.prog wx = .ok (.enter fn args) wx) :
    Calls Tryz.prog 139 #[v, .func (.func fn) #[] #[]] w fun e w' => e = .returned (.bool (xs.items.any p)) ∧ Below w.heap.size w w' := by
  have H := Lib.hid (index_said hB hv hf hcf)
  clear hv hf hcf
  go_enter Tryz.func139, Tryz.ntmps139
  go_wp2_with fail
  refine H.out.mono ?_
  rintro e w' ⟨n, rfl, hn, hb⟩
  have K := Lib.hid (And.intro hn hb)
  clear hn hb
  go_wp2_with fail
  go_ret
  refine ⟨?_, K.out.2⟩
  rw [← K.out.1]; rfl
end Go.Proofs.YtcldcigopkfmmaaGreatDoor

/- Trees: is a number too long. -/
namespace Go.My
open Go.Nd
def longOne (x : Nd) : Bool := (x.kind == 1 && decide (200 < x.text.length)) || long x.l || long x.body || long x.els
theorem long_items (xs : Ns) : long xs = xs.items.any longOne := by
  induction xs with
  | nil => rfl
  | cons k t l b e r _ _ _ ihr => rw [Ns.items_cons, List.any_cons, ← ihr]; rfl
theorem tx_size (l : List UInt8) : (tx l).size = l.length := by simp [tx, ByteArray.size]
end Go.My
namespace Go.Proofs.YtcldcigopkfmmaaGreatDoor
open Go.RowKit Go.My Go.Nd

def LongSaid (tw : Bool) (x : Ns) : Prop := ∀ (w : World) (B : Nat) (v : Value), B ≤ w.heap.size → Nodes w (· < B) tw v x → Calls Tryz.prog 104 #[v] w fun e w' => e = .returned (.bool (long x)) ∧ Below w.heap.size w w'

theorem box_later {w w1 : World} {cs : Array Value} {ty : TypeId} (hb : Below (w.alloc (.cells cs ty)).heap.size (w.alloc (.cells cs ty)) w1) (o : Nat) : w1.cell? ⟨w.heap.size, o, none⟩ = cs[o]? :=
  (World.cell?_of_block (hb.block w.heap.size (by simp))).trans (cell_of_row _ w.heap.size o _ _ _ (heap_alloc_new w (.cells cs ty)))

set_option maxRecDepth 100000 in
set_option maxHeartbeats 4000000 in
theorem long_one {tw : Bool} {B : Nat} {x : Nd} (h1 : LongSaid tw x.l) (h2 : LongSaid tw x.body) (h3 : LongSaid tw x.els) : Asked tw B 140 longOne x := by
  intro w a1 a2 a3 c1 c2 c3 hB n1 n2 n3 hk ht
  obtain ⟨kd, tt, xl, xb, xe⟩ := x
  simp only at *
  have hA := Below.alloc (Below.refl w.heap.size w) (Nat.le_refl _) (.cells #[.int .u8 (kd : Int), .string (tx tt), .slice a1 xl.len c1, .slice a2 xb.len c2, .slice a3 xe.len c3] 74)
  have Y := Lib.hid (And.intro h1 (And.intro h2 (And.intro h3 (And.intro (n1.below (hA.mono hB)) (And.intro (n2.below (hA.mono hB)) (And.intro (n3.below (hA.mono hB)) (And.intro hA hB)))))))
  have ts := tx_size tt
  have k0 : (0 : Int) ≤ (kd : Int) := by omega
  have tl : (tt.length : Int) ≤ 140737488351232 := by omega
  obtain ⟨bx, hbx⟩ : ∃ bx, bx = w.heap.size := ⟨_, rfl⟩
  have HX := Lib.hid hbx
  obtain ⟨p, hp⟩ : ∃ p, p = (kd == 1 && decide (200 < tt.length)) := ⟨_, rfl⟩
  have HR := Lib.hid (show longOne ⟨kd, tt, xl, xb, xe⟩ = (p || long xl || long xb || long xe) by rw [hp]; rfl)
  clear h1 h2 h3 n1 n2 n3 hA hB hbx
  go_enter Tryz.func140, Tryz.ntmps140
  cases p with
  | true =>
    have hq : kd = 1 ∧ 200 < tt.length := by have := hp.symm; simpa using this
    obtain ⟨rfl, hq⟩ := hq
    have hq2 : (200 : Int) < (tt.length : Int) := by omega
    clear hp hq
    go_wp2_with fail
    go_ret
    exact ⟨by rw [HR.out]; rfl, Y.out.2.2.2.2.2.2.1⟩
  | false =>
    have hq : ((kd : Int) == 1) = false ∨ (kd = 1 ∧ (tt.length : Int) ≤ 200) := by
      have := hp.symm
      by_cases hk1 : kd = 1
      · right; subst hk1; simp at this; omega
      · left; simp; omega
    clear hp
    have go : ((kd : Int) == 1) = false ∨ (kd = 1 ∧ (tt.length : Int) ≤ 200) := hq
    rcases hq with hq | ⟨rfl, hq⟩
    all_goals
      clear go
      (try have hq2 : decide ((200 : Int) < (tt.length : Int)) = false := by simp; omega)
      go_wp2_with fail
      refine (Y.out.1 _ B _ (Nat.le_trans Y.out.2.2.2.2.2.2.2 Y.out.2.2.2.2.2.2.1.size) Y.out.2.2.2.1).mono ?_
      rintro e w1 ⟨rfl, hb1⟩
      have e3 := box_later hb1 3
      have e4 := box_later hb1 4
      simp at e3 e4
      have B1 := Lib.hid hb1
      clear hb1
      cases hl1 : long xl with
      | true =>
        have L1 := Lib.hid hl1
        clear hl1
        go_wp2_with fail
        go_ret
        exact ⟨by rw [HR.out, L1.out]; rfl, Y.out.2.2.2.2.2.2.1.trans (B1.out.mono Y.out.2.2.2.2.2.2.1.size)⟩
      | false =>
        have L1 := Lib.hid hl1
        clear hl1
        have K1 := Lib.hid (Y.out.2.2.2.2.2.2.1.trans (B1.out.mono Y.out.2.2.2.2.2.2.1.size))
        go_wp2_with fail
        refine (Y.out.2.1 w1 B _ (Nat.le_trans Y.out.2.2.2.2.2.2.2 K1.out.size) (Y.out.2.2.2.2.1.below (B1.out.mono (Nat.le_trans Y.out.2.2.2.2.2.2.2 Y.out.2.2.2.2.2.2.1.size)))).mono ?_
        rintro e w2 ⟨rfl, hb2⟩
        have hb12 := B1.out.trans (hb2.mono B1.out.size)
        have e4' := box_later hb12 4
        simp at e4'
        have B2 := Lib.hid hb12
        clear hb2 hb12 e3 e4
        cases hl2 : long xb with
        | true =>
          have L2 := Lib.hid hl2
          clear hl2
          go_wp2_with fail
          go_ret
          exact ⟨by rw [HR.out, L1.out, L2.out]; rfl, Y.out.2.2.2.2.2.2.1.trans (B2.out.mono Y.out.2.2.2.2.2.2.1.size)⟩
        | false =>
          have L2 := Lib.hid hl2
          clear hl2
          have K2 := Lib.hid (Y.out.2.2.2.2.2.2.1.trans (B2.out.mono Y.out.2.2.2.2.2.2.1.size))
          go_wp2_with fail
          refine (Y.out.2.2.1 w2 B _ (Nat.le_trans Y.out.2.2.2.2.2.2.2 K2.out.size) (Y.out.2.2.2.2.2.1.below (B2.out.mono (Nat.le_trans Y.out.2.2.2.2.2.2.2 Y.out.2.2.2.2.2.2.1.size)))).mono ?_
          rintro e w3 ⟨rfl, hb3⟩
          have K3 := Lib.hid (K2.out.trans (hb3.mono K2.out.size))
          clear hb3
          go_wp2_with fail
          go_ret
          exact ⟨by rw [HR.out, L1.out, L2.out]; rfl, K3.out⟩

set_option maxHeartbeats 4000000 in
theorem long_said (tw : Bool) : ∀ xs, LongSaid tw xs := by
  refine Ns.each fun xs ih w B v hB hv => ?_
  have H := Lib.hid (contains_said hB hv (fn := 140) (p := longOne) (fun x hx => long_one (ih x hx).1 (ih x hx).2.1 (ih x hx).2.2) (fun _ _ => by kernel_rfl))
  obtain ⟨a, c, rfl, _⟩ := hv
  clear ih
  go_enter Tryz.func104, Tryz.ntmps104
  go_wp2_with fail
  refine H.out.mono ?_
  rintro e w' ⟨rfl, hb⟩
  have K := Lib.hid hb
  clear hb
  go_wp2_with fail
  go_ret
  exact ⟨by rw [long_items]; rfl, K.out⟩
end Go.Proofs.YtcldcigopkfmmaaGreatDoor

/- Trees: may a program be: the package's own Check. -/
namespace Go.My
open Go.Nd
def bodiesOf (p : Pr) : List Ns := p.body :: p.funcs.map (·.body)
def greatP (wrap : Int → Int) (p : Pr) : Bool := (bodiesOf p).any (Nd.great wrap)
def fnOne (f : Nd.Fn) : Bool := To.name f.name && f.args.all To.name && stmts true f.body
theorem check_is (wrap : Int → Int) (p : Pr) : check wrap p = (p.funcs.all fnOne && stmts false p.body && !greatP wrap p) := by
  unfold check greatP bodiesOf
  rw [List.any_cons, List.any_map]; rfl
theorem not_names (l : List (List UInt8)) : l.any (fun x => !To.name x) = !l.all To.name := by
  induction l with
  | nil => rfl
  | cons x l ih => rw [List.any_cons, List.all_cons, ih]; cases To.name x <;> rfl
end Go.My
namespace Go.Proofs.YtcldcigopkfmmaaGreatDoor
open Go.RowKit Go.My Go.Nd

/-- A function of a list of nodes, asked at any later world. -/
def AskedN (tw : Bool) (B : Nat) (fn : FuncId) (p : Ns → Bool) (x : Ns) : Prop :=
  ∀ (w' : World) (v : Value), B ≤ w'.heap.size → Nodes w' (· < B) tw v x → Calls Tryz.prog fn #[v] w' fun e w'' => e = .returned (.bool (p x)) ∧ Below w'.heap.size w' w''

theorem great1_one (tw : Bool) (B : Nat) (x : Ns) : AskedN tw B 102 (Nd.great wrapI) x := by
  intro w v hB hv
  have HD := Lib.hid (deep_said tw x w B v hB hv)
  have HL := Lib.hid (fun w1 (hb : Below w.heap.size w w1) => long_said tw x w1 B v (Nat.le_trans hB hb.size) (hv.below (hb.mono hB)))
  have hn := deep_nonneg wrapI x
  have hm := deep_le wrapI 9223372036854775807 (by decide) (fun x => by unfold wrapI; rw [IntKind.wrap_i64]; omega) x
  obtain ⟨a, c, rfl, _⟩ := hv
  obtain ⟨d, hd⟩ : ∃ d, d = deep wrapI x := ⟨_, rfl⟩
  rw [← hd] at HD hn hm
  have HDD := Lib.hid hd
  clear hd
  go_enter Tryz.func102, Tryz.ntmps102
  go_wp2_with fail
  refine HD.out.mono ?_
  rintro e w1 ⟨rfl, hb⟩
  have K := Lib.hid hb
  clear hb
  by_cases hg : 64 < d
  · have HG := Lib.hid (show Nd.great wrapI x = true by unfold Nd.great; rw [← HDD.out]; simp [hg])
    go_wp2_with fail
    go_ret
    exact ⟨by rw [HG.out]; rfl, K.out⟩
  · have hg1 : d ≤ 64 := by omega
    have HG := Lib.hid (show Nd.great wrapI x = (decide (64 < d) || long x) by unfold Nd.great; rw [← HDD.out])
    clear hg
    go_wp2_with fail
    refine (HL.out w1 K.out).mono ?_
    rintro e w2 ⟨rfl, hb⟩
    have K2 := Lib.hid (K.out.trans (hb.mono K.out.size))
    clear hb
    go_wp2_with fail
    go_ret
    exact ⟨by rw [HG.out]; rfl, K2.out⟩

def IndexNAt (w : World) (xs : List Ns) (p : Ns → Bool) (gk : Nat) (v8 : Value) (wr : World) : Prop :=
  ∃ i : Nat, i ≤ xs.length ∧ gk = xs.length - i ∧ v8 = .int .i64 (i : Int) ∧ (xs.drop i).any p = xs.any p ∧ Below w.heap.size w wr

/-- v reads as these lists of nodes: the row itself anywhere, the nodes below B. -/
def ListsOf (w : World) (B : Nat) (tw : Bool) (v : Value) (xs : List Ns) : Prop :=
  ∃ vs, RowIn w (fun b => b < w.heap.size) v vs ∧ vs.length = xs.length ∧ ∀ j (h : j < vs.length) (h' : j < xs.length), Nodes w (· < B) tw vs[j] xs[j]

set_option maxRecDepth 100000 in
set_option maxHeartbeats 4000000 in
theorem indexN_said {tw : Bool} {xs : List Ns} {fn : Nat} {p : Ns → Bool} {w : World} {B : Nat} {v : Value} (hB : B ≤ w.heap.size) (hv : ListsOf w B tw v xs) (hx : xs.length ≤ 140737488351232) (hf : ∀ x ∈ xs, AskedN tw B fn p x) (hcf : ∀ (args : Array Value) (wx : World), (callFunc fn args).run Tryz.prog wx = .ok (.enter fn args) wx) :
    Calls Tryz.prog 138 #[v, .func (.func fn) #[] #[]] w (IndexSaid w (xs.any p)) := by
  obtain ⟨vs, ⟨a, c, rfl, hc1, hc2, _, hcell⟩, hlen, hn⟩ := hv
  rw [hlen]
  have HF := Lib.hid hf
  have HN := Lib.hid hn
  have HC := Lib.hid hcell
  have HL := Lib.hid hlen
  have l0 : (0 : Int) ≤ (xs.length : Int) := by omega
  have l1 : (xs.length : Int) ≤ 140737488351232 := by omega
  clear hn hcell hlen hf hc1 hc2
  go_enter Tryz.func138, Tryz.ntmps138
  go_wp2_with fail
  go_loopg [8] xs.length (fun gk v8 wr => IndexNAt w xs p gk v8 wr)
  case atStart => exact ⟨0, Nat.zero_le _, rfl, rfl, rfl, Below.refl _ _⟩
  case round =>
    obtain ⟨i, hi, rfl, rfl, hd, hb⟩ := hrel
    have i0 : (0 : Int) ≤ (i : Int) := by omega
    by_cases hlt : i < xs.length
    · have i1 : (i : Int) < (xs.length : Int) := by omega
      have hiv : i < vs.length := by rw [HL.out]; exact hlt
      obtain ⟨b, off, rfl, hS, hcc⟩ := HC.out (by intro e; rw [e] at hiv; exact absurd hiv (Nat.not_lt_zero _))
      have d0 := (World.cell?_of_block (hb.block b hS)).trans (hcc i vs[i] (by rw [List.getElem?_eq_getElem hiv]))
      have hnx := (HN.out i hiv hlt).below (hb.mono hB)
      obtain ⟨y, hy⟩ : ∃ y, y = vs[i] := ⟨_, rfl⟩
      rw [← hy] at d0 hnx
      obtain ⟨x, hx⟩ : ∃ x, x = xs[i] := ⟨_, rfl⟩
      rw [← hx] at hnx
      have hA := HF.out _ (List.getElem_mem hlt)
      rw [← hx] at hA
      have hdr := List.drop_eq_getElem_cons hlt
      rw [← hx] at hdr
      have Y := Lib.hid (And.intro hb (And.intro hd (And.intro hdr (hA wr y (Nat.le_trans hB hb.size) hnx))))
      obtain ⟨ya, yc, rfl, _⟩ := hnx
      clear hb hd hx hdr hA hS hy hcc hiv
      go_wp2_with fail
      refine Y.out.2.2.2.mono ?_
      rintro e w' ⟨rfl, hk⟩
      have K := Lib.hid (Y.out.1.trans (hk.mono Y.out.1.size))
      clear hk
      cases hp : p x with
      | true =>
        have HP := Lib.hid hp
        clear hp
        go_wp2_with fail
        go_ret
        refine ⟨(i : Int), rfl, ?_, K.out⟩
        have hd := Y.out.2.1
        rw [Y.out.2.2.1, List.any_cons, HP.out] at hd
        rw [← hd]; simp
      | false =>
        have HP := Lib.hid hp
        clear hp
        go_wp2_with fail
        go_roundg (xs.length - (i + 1))
        case measure => omega
        case rel =>
          refine ⟨i + 1, hlt, rfl, by go_num, ?_, K.out⟩
          have hd := Y.out.2.1
          rw [Y.out.2.2.1, List.any_cons, HP.out, Bool.false_or] at hd
          exact hd
    · obtain rfl : i = xs.length := by omega
      clear hlt
      go_wp2_with fail
      go_ret
      exact ⟨-1, rfl, by rw [← hd, List.drop_length]; rfl, hb⟩

set_option maxRecDepth 100000 in
set_option maxHeartbeats 4000000 in
theorem containsN_said {tw : Bool} {xs : List Ns} {fn : Nat} {p : Ns → Bool} {w : World} {B : Nat} {v : Value} (hB : B ≤ w.heap.size) (hv : ListsOf w B tw v xs) (hx : xs.length ≤ 140737488351232) (hf : ∀ x ∈ xs, AskedN tw B fn p x) (hcf : ∀ (args : Array Value) (wx : World), (callFunc fn args).run Tryz.prog wx = .ok (.enter fn args) wx) :
    Calls Tryz.prog 100 #[v, .func (.func fn) #[] #[]] w fun e w' => e = .returned (.bool (xs.any p)) ∧ Below w.heap.size w w' := by
  have H := Lib.hid (indexN_said hB hv hx hf hcf)
  clear hv hf hcf
  go_enter Tryz.func100, Tryz.ntmps100
  go_wp2_with fail
  refine H.out.mono ?_
  rintro e w' ⟨n, rfl, hn, hb⟩
  have K := Lib.hid (And.intro hn hb)
  clear hn hb
  go_wp2_with fail
  go_ret
  refine ⟨?_, K.out.2⟩
  rw [← K.out.1]; rfl
end Go.Proofs.YtcldcigopkfmmaaGreatDoor

/- Trees: the bodies of a program; is it too great; may it be. -/
namespace Go.My
open Go.RowKit Go.Nd
theorem Since.nodes {w0 w : World} {g : Tags} (h : Since w0 w g) {B : Nat} (hB : B ≤ w0.heap.size) {tw : Bool} {v : Value} {x : Ns} (hv : Nodes w0 (· < B) tw v x) : Nodes w (· < B) tw v x := hv.below (h.below.mono hB)

end Go.My
namespace Go.Proofs.YtcldcigopkfmmaaGreatDoor
open Go.RowKit Go.My Go.Nd

theorem nodesElem : Elem Tryz.prog 165 45 1 24 (.slice none 0 0) := Elem.mk' Tryz.underlying165 (by kernel_rfl) rfl (by decide)

structure BodAt (w : World) (B : Nat) (tw : Bool) (p : Pr) (i : Nat) (bx : Nat) (ty : TypeId) (cs : Array Value) (v : Value) (wr : World) (g : Tags) (vs : List Value) : Prop where
  since : Since w wr g
  box : w.heap.size ≤ bx ∧ wr.heap[bx]? = some (.cells cs ty (0, 0)) ∧ g bx = 900
  own : Owns wr g 5 45 1 v (i + 1) vs
  len : vs.length = i + 1
  each : ∀ j (h : j < vs.length) (h' : j < (bodiesOf p).length), Nodes wr (· < B) tw vs[j] (bodiesOf p)[j]

def BodLoop (w : World) (B : Nat) (tw : Bool) (p : Pr) (bx : Nat) (ty : TypeId) (cs : Array Value) (gk : Nat) (v3 v12 : Value) (wr : World) : Prop :=
  ∃ (i : Nat) (ao : Option Addr) (cap : Nat) (g : Tags) (vs : List Value), i ≤ p.funcs.length ∧ gk = p.funcs.length - i ∧ v12 = .int .i64 (i : Int) ∧ v3 = .slice ao (i + 1) cap ∧ BodAt w B tw p i bx ty cs v3 wr g vs

theorem bodiesOf_length (p : Pr) : (bodiesOf p).length = p.funcs.length + 1 := by simp [bodiesOf]
theorem bodiesOf_succ (p : Pr) (i : Nat) (hi : i < p.funcs.length) : (bodiesOf p)[i + 1]'(by rw [bodiesOf_length]; omega) = (p.funcs[i]).body := by simp [bodiesOf]

theorem bod_snoc {w wr w2 : World} {B : Nat} {tw : Bool} {p : Pr} {i bx : Nat} {ty : TypeId} {cs : Array Value} {v v2 u : Value} {g g2 : Tags} {vs : List Value} (hB : B ≤ w.heap.size) (h : BodAt w B tw p i bx ty cs v wr g vs) (hi : i < p.funcs.length) {o1 o2 : Obj}
    (hT : Turn ((wr.alloc o1).alloc o2) ((g.ext wr.heap.size 900).ext (wr.heap.size + 1) 901) w2 g2 [5]) (hO : Owns w2 g2 5 45 1 v2 (i + 1 + 1) (vs ++ [u])) (hu : Nodes wr (· < B) tw u (p.funcs[i]).body) : BodAt w B tw p (i + 1) bx ty cs v2 w2 g2 (vs ++ [u]) := by
  have e2 : (wr.alloc o1).heap.size = wr.heap.size + 1 := by simp
  have Ta := Turn.alloc wr g 900 o1
  have Tb := Turn.alloc (wr.alloc o1) (g.ext wr.heap.size 900) 901 o2
  rw [e2] at Tb
  have T : Turn wr g w2 g2 [5] := (Ta.trans Tb (V := []) (by simp) (by simp)).trans hT (by simp) (by simp)
  have hs := h.since.turn T (by decide)
  have hblk : bx < wr.heap.size := (Array.getElem?_eq_some_iff.1 h.box.2.1).1
  have nd : ∀ v x, Nodes wr (· < B) tw v x → Nodes w2 (· < B) tw v x := fun v x hv => hv.frame fun b hb _ => T.block b (Nat.lt_of_lt_of_le hb (Nat.le_trans hB h.since.below.size)) (by rw [h.since.zero b (Nat.lt_of_lt_of_le hb hB)]; decide)
  refine ⟨hs, ⟨h.box.1, (T.block bx hblk (by rw [h.box.2.2]; decide)).trans h.box.2.1, (T.old bx hblk).trans h.box.2.2⟩, hO, by simp [h.len], fun j hj hj' => ?_⟩
  rcases Nat.lt_or_ge j vs.length with hlt | hge
  · rw [List.getElem_append_left hlt]
    exact nd _ _ (h.each j hlt hj')
  · have : j = i + 1 := by have h2 := h.len; simp at hj; omega
    subst this
    rw [List.getElem_append_right hge, bodiesOf_succ p i hi]
    simp only [h.len, Nat.sub_self, List.getElem_singleton]
    exact nd _ _ hu

set_option maxRecDepth 100000 in
set_option maxHeartbeats 4000000 in
theorem bodies_t {w : World} {B : Nat} {tw : Bool} {p : Pr} {v1 v2 : Value} (hB : B ≤ w.heap.size) (h1 : FuncsIn w (· < B) tw v1 p.funcs) (h2 : Nodes w (· < B) tw v2 p.body) {Q : Ending → World → Prop}
    (h : ∀ v w', Below w.heap.size w w' → ListsOf w' B tw v (bodiesOf p) → Q (.returned v) w') : Calls Tryz.prog 101 #[.agg #[v1, v2]] w Q := by
  obtain ⟨a1, c1, rfl, _, _, hr, _, hc⟩ := h1
  obtain ⟨a2, c2, rfl, hr2, hn⟩ := id h2
  have H := Lib.hid h
  have HC := Lib.hid hc
  have HB2 := Lib.hid h2
  have l0 : (0 : Int) ≤ (p.funcs.length : Int) := by omega
  have l1 : (p.funcs.length : Int) ≤ 140737488351232 := by omega
  have hl9 : p.funcs.length ≤ 2199023255552 := by omega
  have Tb := Turn.alloc w (fun _ => 0) 900 (.cells #[.slice a1 p.funcs.length c1, .slice a2 p.body.len c2] 47)
  have Tc := Turn.alloc (w.alloc (.cells #[.slice a1 p.funcs.length c1, .slice a2 p.body.len c2] 47)) (Tags.ext (fun _ => 0) w.heap.size 900) 5 (.cells #[.slice a2 p.body.len c2] 45)
  have hbx : (w.alloc (.cells #[.slice a1 p.funcs.length c1, .slice a2 p.body.len c2] 47)).heap[w.heap.size]? = _ := _root_.Go.heap_alloc_new w _
  have e2 : (w.alloc (.cells #[.slice a1 p.funcs.length c1, .slice a2 p.body.len c2] 47)).heap.size = w.heap.size + 1 := by simp
  have S2 := ((Since.start w).turn Tb (by simp)).turn Tc (by simp)
  have Y0 := Lib.hid (show BodAt w B tw p 0 w.heap.size 47 #[.slice a1 p.funcs.length c1, .slice a2 p.body.len c2] (.slice (some ⟨w.heap.size + 1, 0, none⟩) 1 1) _ _ [.slice a2 p.body.len c2] from
    ⟨S2, ⟨Nat.le_refl _, (Tc.block w.heap.size (by rw [e2]; omega) (by simp)).trans hbx, by rw [Tc.old _ (by rw [e2]; omega), Tags.ext_new _ _ _ _ (Nat.le_refl _)]⟩,
      ⟨some (w.heap.size + 1), ⟨rfl, .inr ⟨w.heap.size + 1, 0, 1, _, rfl, rfl, by rw [← e2]; exact _root_.Go.heap_alloc_new _ _, Nat.le_refl _, by decide, by simp, by simp⟩⟩, fun b hb => by cases hb; rw [← e2]; exact Tags.ext_new _ _ _ _ (Nat.le_refl _)⟩, rfl, fun j hj hj' => by
        have : j = 0 := by simpa using hj
        subst this
        exact S2.nodes hB h2⟩)
  clear h hc h2 hr hr2 hn Tb Tc hbx S2
  go_enter Tryz.func101, Tryz.ntmps101
  go_upto_region 2 with fail
  obtain ⟨bx, hbx⟩ : ∃ bx, bx = w.heap.size := ⟨_, rfl⟩
  generalize hg2 : (Tags.ext (Tags.ext (fun _ => 0) w.heap.size 900) (w.alloc (.cells #[.slice a1 p.funcs.length c1, .slice a2 p.body.len c2] 47)).heap.size 5) = g2 at Y0
  generalize hw2 : (w.alloc (.cells #[.slice a1 p.funcs.length c1, .slice a2 p.body.len c2] 47)).alloc (.cells #[.slice a2 p.body.len c2] 45) = w2 at Y0 ⊢
  rw [← hbx] at Y0 ⊢
  have q0 : w2.cell? ⟨bx, 0, none⟩ = some (.slice a1 p.funcs.length c1) := cell_of_row w2 bx 0 _ _ _ Y0.out.box.2.1
  clear hg2 hw2 hbx e2
  go_wp2_with fail
  go_loopg [3, 12] p.funcs.length (fun gk v3 v12 wr => BodLoop w B tw p bx 47 #[.slice a1 p.funcs.length c1, .slice a2 p.body.len c2] gk v3 v12 wr)
  case atStart => exact ⟨0, _, _, g2, _, Nat.zero_le _, rfl, rfl, rfl, Y0.out⟩
  case round =>
    obtain ⟨i, ao, cap, g, vs, hi, rfl, rfl, rfl, hA⟩ := hrel
    have i0 : (0 : Int) ≤ (i : Int) := by omega
    have X := Lib.hid hA
    clear hA Y0 q0
    by_cases hlt : i < p.funcs.length
    · have i1 : (i : Int) < (p.funcs.length : Int) := by omega
      obtain ⟨b, off, v1, v2, rfl, hS, hN⟩ := HC.out i hlt
      have hblk := X.out.since.below.block b (Nat.lt_of_lt_of_le hS hB)
      have d0 := (World.cell?_of_block hblk).trans hN.d0
      have d1 := (World.cell?_of_block hblk).trans hN.d1
      have d2 := (World.cell?_of_block hblk).trans hN.d2
      have hb1 := X.out.since.nodes hB hN.body
      obtain ⟨y1, z1, e1⟩ := hN.args.form
      obtain ⟨y2, z2, e2⟩ := hN.body.form
      subst e1
      subst e2
      generalize hfi : (p.funcs[i]).args.length = na at *
      generalize hfn : tx (p.funcs[i]).name = nm at *
      have HNB := Lib.hid hb1
      have hown := X.out.own
      obtain ⟨bx2, hbx2⟩ : ∃ bx2, bx2 = wr.heap.size := ⟨_, rfl⟩
      have e3 : (wr.alloc (.cells #[.string nm, .slice y1 na z1, .slice y2 (p.funcs[i]).body.len z2] 70)).heap.size = wr.heap.size + 1 := by simp
      have OW := Lib.hid ((X.out.own.turn (Turn.alloc wr g 900 (.cells #[.string nm, .slice y1 na z1, .slice y2 (p.funcs[i]).body.len z2] 70)) (by simp)).turn (Turn.alloc (wr.alloc (.cells #[.string nm, .slice y1 na z1, .slice y2 (p.funcs[i]).body.len z2] 70)) (g.ext wr.heap.size 900) 901 (.cells #[.slice y2 (p.funcs[i]).body.len z2] 45)) (by simp))
      rw [e3] at OW
      have hi2 : i + 1 + 1 ≤ 2199023255553 := by omega
      clear hN hb1 hown hS hblk hfi hfn hbx2
      go_wp2_with (at_builtin; go_loud (refine wpList_append_t _ rfl (.tmp 16) (.tmp 19) rfl nodesElem (g := (g.ext wr.heap.size 900).ext (wr.heap.size + 1) 901) (tg := 5) rfl OW.out rfl (Src.lit #[.slice y2 (p.funcs[i]).body.len z2] 45 (by simp) rfl) (by simp [Value.oneCell']) (by unfold maxLen; omega) (by omega) ?_); intro a5 c5 w5 g5 O5 T5; have X5 := Lib.hid (bod_snoc hB X.out hlt T5 O5 HNB.out); clear O5 T5)
      go_roundg (p.funcs.length - (i + 1))
      case measure => omega
      case rel => exact ⟨i + 1, _, _, g5, _, hlt, rfl, by go_num, rfl, X5.out⟩
    · have hie : i = p.funcs.length := by omega
      have i1 : (p.funcs.length : Int) ≤ (i : Int) := by omega
      have hL : ListsOf wr B tw (.slice ao (i + 1) cap) (bodiesOf p) := ⟨vs, RowIn.mono X.out.own.row (fun b hb _ => hb), by rw [X.out.len, bodiesOf_length, hie], X.out.each⟩
      have HL := Lib.hid hL
      clear hlt hie hi hL
      go_wp2_with fail
      exact H.out _ _ X.out.since.below HL.out

set_option maxRecDepth 100000 in
set_option maxHeartbeats 2000000 in
theorem great_t {w : World} {B : Nat} {tw : Bool} {p : Pr} {v1 v2 : Value} (hB : B ≤ w.heap.size) (h1 : FuncsIn w (· < B) tw v1 p.funcs) (h2 : Nodes w (· < B) tw v2 p.body) :
    Calls Tryz.prog 57 #[.agg #[v1, v2]] w fun e w' => e = .returned (.bool (greatP wrapI p)) ∧ Below w.heap.size w w' := by
  have hA := Below.alloc (Below.refl w.heap.size w) (Nat.le_refl _) (.cells #[v1, v2] 47)
  have hx : (bodiesOf p).length ≤ 140737488351232 := by obtain ⟨_, _, _, _, _, hr, _⟩ := h1; rw [bodiesOf_length]; omega
  have C := Lib.hid (fun (Q : Ending → World → Prop) (h : ∀ v w', Below (w.alloc (.cells #[v1, v2] 47)).heap.size (w.alloc (.cells #[v1, v2] 47)) w' → ListsOf w' B tw v (bodiesOf p) → Q (.returned v) w') => bodies_t (Nat.le_trans hB hA.size) (h1.below (hA.mono hB)) (h2.below (hA.mono hB)) h)
  obtain ⟨a1, c1, rfl, _⟩ := h1
  obtain ⟨a2, c2, rfl, _⟩ := h2
  have Y := Lib.hid (And.intro hA (And.intro hB hx))
  clear hA hx hB
  go_enter Tryz.func57, Tryz.ntmps57
  go_wp2_with fail
  refine C.out _ fun v w' hb hL => ?_
  have K := Lib.hid (Y.out.1.trans (hb.mono Y.out.1.size))
  have HL := Lib.hid (containsN_said (fn := 102) (p := Nd.great wrapI) (Nat.le_trans Y.out.2.1 K.out.size) hL Y.out.2.2 (fun x _ => great1_one tw B x) (fun _ _ => by kernel_rfl))
  obtain ⟨vs, ⟨va, vc, ev, hx1⟩, hl, hx2⟩ := hL
  subst ev
  clear hb hx1 hl hx2
  go_wp2_with fail
  refine HL.out.mono ?_
  rintro e w2 ⟨rfl, hb⟩
  have K2 := Lib.hid (K.out.trans (hb.mono K.out.size))
  clear hb
  go_wp2_with fail
  go_ret
  exact ⟨rfl, K2.out⟩
end Go.Proofs.YtcldcigopkfmmaaGreatDoor

/- Tokens: silence; the table of kinds. -/
namespace Go.To
theorem sil_run (l : List UInt8) : sil false l = run isB l + sil false (l.drop (run isB l)) := by
  induction l with
  | nil => simp [run, sil]
  | cons c l ih =>
    by_cases h : isB c = true
    · rw [sil, if_pos h, run, if_pos h, ih, List.drop_succ_cons]; omega
    · rw [run, if_neg h]; simp
theorem run_stop (p : UInt8 → Bool) (l : List UInt8) (c : UInt8) (h : (l.drop (run p l)).head? = some c) : p c = false := by
  induction l with
  | nil => simp [run] at h
  | cons d l ih =>
    by_cases hd : p d = true
    · rw [run, if_pos hd, List.drop_succ_cons] at h; exact ih h
    · rw [run, if_neg hd] at h
      simp at h
      subst h
      simpa using hd
theorem sil_stop (c : UInt8) (l : List UInt8) (h1 : isB c = false) (h2 : c.toNat ≠ 35) : sil false (c :: l) = 0 := by
  rw [sil, if_neg (by simp [h1]), if_neg h2]
theorem ib_cons (c : UInt8) (l : List UInt8) (x : UInt8) (h : c ≠ x) : Lib.indexByte (c :: l) x = if Lib.indexByte l x = -1 then -1 else Lib.indexByte l x + 1 := by
  conv => lhs; unfold Lib.indexByte
  rw [if_neg (by simpa using h)]
  by_cases h2 : Lib.indexByte l x = -1
  · rw [if_pos h2, if_pos (by simp [h2])]
  · rw [if_neg h2, if_neg (by simpa using h2)]
theorem ib_same (l : List UInt8) (x : UInt8) : Lib.indexByte (x :: l) x = 0 := by unfold Lib.indexByte; simp
theorem sil_in (l : List UInt8) : (Lib.indexByte l 10 < 0 → sil true l = l.length) ∧ ∀ e : Nat, Lib.indexByte l 10 = e → sil true l = e + sil false (l.drop e) := by
  induction l with
  | nil => exact ⟨fun _ => rfl, fun e h => by simp [Lib.indexByte] at h⟩
  | cons c l ih =>
    by_cases hc : c = 10
    · subst hc
      have e1 : Lib.indexByte (10 :: l) 10 = 0 := ib_same l 10
      refine ⟨fun h => by rw [e1] at h; exact absurd h (by decide), fun e h => ?_⟩
      rw [e1] at h
      have : e = 0 := by omega
      subst this
      rw [List.drop_zero, sil, sil, if_pos (show (10 : UInt8).toNat = 10 from rfl), if_pos (by decide)]; omega
    · have hcn : c.toNat ≠ 10 := fun h => hc (UInt8.toNat_inj.1 h)
      have hp := (Proofs.YtcldcigopkfmmaaGreatDoor.idx_pos l 10).1
      rw [sil, if_neg hcn, ib_cons c l 10 hc]
      by_cases h2 : Lib.indexByte l 10 = -1
      · rw [if_pos h2]
        exact ⟨fun _ => by rw [ih.1 (by omega), List.length_cons], fun e h => by omega⟩
      · rw [if_neg h2]
        refine ⟨fun h => by omega, fun e h => ?_⟩
        obtain ⟨k, rfl⟩ : ∃ k, e = k + 1 := ⟨e - 1, by omega⟩
        have h4 := ih.2 k (by omega)
        rw [h4, List.drop_succ_cons]
        omega
theorem sil_hash (c : UInt8) (l : List UInt8) (h : c.toNat = 35) : (Lib.indexByte (c :: l) 10 < 0 → sil false (c :: l) = (c :: l).length) ∧ ∀ e : Nat, Lib.indexByte (c :: l) 10 = e → 0 < e ∧ sil false (c :: l) = e + sil false ((c :: l).drop e) := by
  have hc : c ≠ 10 := fun e => by rw [e] at h; exact absurd h (by decide)
  have hb : isB c = false := by simp [isB, h]
  have e0 : sil false (c :: l) = sil true (c :: l) := by rw [sil, sil, if_neg (by simp [hb]), if_pos h, if_neg (by omega)]
  rw [e0]
  refine ⟨(sil_in (c :: l)).1, fun e he => ⟨?_, (sil_in (c :: l)).2 e he⟩⟩
  rcases Nat.eq_zero_or_pos e with h0 | h0
  · exfalso
    subst h0
    rw [ib_cons c l 10 hc] at he
    have := (Proofs.YtcldcigopkfmmaaGreatDoor.idx_pos l 10).1
    by_cases h2 : Lib.indexByte l 10 = -1
    · rw [if_pos h2] at he; omega
    · rw [if_neg h2] at he; omega
  · exact h0
end Go.To
namespace Go.Proofs.YtcldcigopkfmmaaGreatDoor
open Go.RowKit Go.My

def SilAt (w : World) (l : List UInt8) (gk : Nat) (vn : Value) (wr : World) : Prop :=
  ∃ n : Nat, n ≤ l.length ∧ gk = l.length - n ∧ vn = .int .i64 (n : Int) ∧ To.sil false l = n + To.sil false (l.drop n) ∧ Below w.heap.size w wr

set_option maxHeartbeats 2000000 in
theorem silence_t {w : World} (l : List UInt8) (hl : l.length ≤ 9223372036854775807) {Q : Ending → World → Prop} (h : ∀ w', Below w.heap.size w w' → Q (.returned (.int .i64 (To.sil false l : Nat))) w') :
    Calls Tryz.prog 67 #[.string (bs l)] w Q := by
  have H := Lib.hid h
  have hs0 := bs_size l
  have hl1 : (l.length : Int) ≤ 9223372036854775807 := by omega
  clear h
  go_enter Tryz.func67, Tryz.ntmps67
  go_wp2_with fail
  go_loopg [2] l.length (fun gk vn wr => SilAt w l gk vn wr)
  case atStart => exact ⟨0, Nat.zero_le _, rfl, rfl, by simp, Below.refl _ _⟩
  case round =>
    obtain ⟨n, hn, rfl, rfl, hsil, hB⟩ := hrel
    have HX := Lib.hid (And.intro hsil hB)
    clear hsil hB
    have n0 : (0 : Int) ≤ (n : Int) := by omega
    have n1 : (n : Int) ≤ (l.length : Int) := by omega
    have hsl := sl_s l .i64 n (z := (n : Int)) rfl hn
    obtain ⟨r, hr⟩ : ∃ r, r = To.run To.isB (l.drop n) := ⟨_, rfl⟩
    have hrl := To.run_le To.isB (l.drop n)
    rw [← hr, List.length_drop] at hrl
    obtain ⟨m, hm⟩ : ∃ m, m = n + r := ⟨_, rfl⟩
    have hmi : (n : Int) + (r : Int) = (m : Int) := by omega
    have hml : m ≤ l.length := by omega
    have hr2 : (r : Int) ≤ (l.length : Int) := by omega
    have hsl2 := sl_s l .i64 m (z := (m : Int)) rfl hml
    have hdd : (l.drop n).drop r = l.drop m := by rw [List.drop_drop, hm]
    have hs1 := To.sil_run (l.drop n)
    have hs2 := To.run_stop To.isB (l.drop n)
    rw [← hr, hdd] at hs1 hs2
    have HR := Lib.hid (And.intro hr (And.intro hs1 (And.intro hs2 hm)))
    clear hr hs1 hs2 hdd hm
    go_wp2_with fail
    refine run_t cutB (l.drop n) (by rw [List.length_drop]; omega) fun w2 hB2 => ?_
    rw [← HR.out.1]
    have HB := Lib.hid (HX.out.2.trans (hB2.mono HX.out.2.size))
    clear hB2
    by_cases hend : m = l.length
    · have hei : (m : Int) = (l.length : Int) := by omega
      have hfin := Lib.hid (show To.sil false l = l.length by rw [HX.out.1, HR.out.2.1, hend, List.drop_length]; show n + (r + 0) = _; have := HR.out.2.2.2; omega)
      have h2 := Lib.hid (H.out w2 HB.out)
      rw [hfin.out] at h2
      clear hend
      go_wp2_with fail
      exact h2.out
    · have hlt : m < l.length := by omega
      have hei : (m : Int) < (l.length : Int) := by omega
      have hix := ix_s l .i64 m (z := (m : Int)) rfl hlt
      obtain ⟨c, rs, hcr⟩ : ∃ c rs, l.drop m = c :: rs := by
        cases hd : l.drop m with
        | nil => have := congrArg List.length hd; simp at this; omega
        | cons c rs => exact ⟨c, rs, rfl⟩
      have hlm : l[m] = c := by
        have := List.drop_eq_getElem_cons hlt
        rw [hcr] at this
        exact (List.cons.inj this).1.symm
      rw [hlm] at hix
      have hbc := HR.out.2.2.1 c (by rw [hcr]; rfl)
      clear hend hlm
      by_cases hh : c.toNat = 35
      · have hh1 : (c.toNat : Int) = 35 := by omega
        have hsh := To.sil_hash c rs hh
        rw [← hcr] at hsh
        obtain ⟨x, hx⟩ : ∃ x, x = Lib.indexByte (l.drop m) 10 := ⟨_, rfl⟩
        have hxp := idx_pos (l.drop m) 10
        rw [← hx] at hxp hsh
        rw [List.length_drop] at hxp
        have HC := Lib.hid (And.intro hx (And.intro hsh hcr))
        have hx1 : -1 ≤ x := hxp.1
        have hx2 : x < (l.length : Int) := by omega
        have hx3 : x < (l.length : Int) - (m : Int) := by omega
        clear hx hsh hcr hxp hh hbc
        by_cases hneg : x < 0
        · have hfin := Lib.hid (show To.sil false l = l.length by rw [HX.out.1, HR.out.2.1, HC.out.2.1.1 hneg, List.length_drop]; have := HR.out.2.2.2; omega)
          have h2 := Lib.hid (H.out w2 HB.out)
          rw [hfin.out] at h2
          go_wp2_with fail
          refine idx_t (l.drop m) 10 rfl ?_
          rw [← HC.out.1]
          go_wp2_with fail
          exact h2.out
        · obtain ⟨e, he⟩ : ∃ e : Nat, x = (e : Int) := ⟨x.toNat, by omega⟩
          subst he
          have hpe := HC.out.2.1.2 e rfl
          have HPE := Lib.hid hpe
          have hme : (m : Int) + (e : Int) ≤ (l.length : Int) := by omega
          have hei2 : (0 : Int) ≤ (e : Int) := by omega
          clear hpe hneg
          go_wp2_with fail
          refine idx_t (l.drop m) 10 rfl ?_
          rw [← HC.out.1]
          go_wp2_with fail
          go_roundg (l.length - (m + e))
          case measure => have := HPE.out.1; have := HR.out.2.2.2; omega
          case rel => exact ⟨m + e, by omega, rfl, by go_num, by rw [HX.out.1, HR.out.2.1, HPE.out.2, List.drop_drop]; have := HR.out.2.2.2; omega, HB.out⟩
      · have hh1 : ((c.toNat : Int) == 35) = false := by simp; omega
        have hh2 : ((c.toNat : Int) != 35) = true := by simp; omega
        have hfin := Lib.hid (show To.sil false l = m by rw [HX.out.1, HR.out.2.1, hcr, To.sil_stop c rs hbc hh]; have := HR.out.2.2.2; omega)
        have h2 := Lib.hid (H.out w2 HB.out)
        rw [hfin.out] at h2
        clear hcr hbc hh
        go_wp2_with fail
        exact h2.out
end Go.Proofs.YtcldcigopkfmmaaGreatDoor

/- Memory by owners: owners may be named anew for a call. No program in sight. -/
namespace Go.My
open Go.RowKit

/-- Names behind a call that was looked at under other names (s: the other name of an owner; r: the owner's name of the other one). -/
def Tags.back (g g0 : Tags) (n : Nat) (r : Nat → Nat) : Tags := fun b => if b < n then g b else r (g0 b)

theorem Turn.back {w w' : World} {g g0 : Tags} {T : List Nat} (s r : Nat → Nat) (h : Turn w (fun b => s (g b)) w' g0 T) (hT : ∀ t, s t ∉ T) : Turn w g w' (g.back g0 w.heap.size r) [] :=
  ⟨h.os, h.tape, h.output, h.size, fun b hb => by unfold Tags.back; rw [if_pos hb], fun b hb _ => h.block b hb (hT _)⟩

theorem back_tag {w w' : World} {g g0 : Tags} {T : List Nat} {s r : Nat → Nat} (h : Turn w (fun b => s (g b)) w' g0 T) {x t : Nat} (hs : ∀ y, s y = x → y = t) (hr : r x = t) (b : Nat) (hb : g0 b = x) : g.back g0 w.heap.size r b = t := by
  unfold Tags.back
  split
  · rename_i hlt
    exact hs _ ((h.old b hlt).symm.trans hb)
  · rw [hb, hr]

theorem Bytes.back {w w' : World} {g g0 : Tags} {T : List Nat} {s r : Nat → Nat} (h : Turn w (fun b => s (g b)) w' g0 T) {x t : Nat} (hs : ∀ y, s y = x → y = t) (hr : r x = t) {v : Value} {l : List UInt8} (hv : Bytes w' g0 x v l) : Bytes w' (g.back g0 w.heap.size r) t v l :=
  BytesIn.mono hv fun b _ hb => back_tag h hs hr b hb

theorem Owns.back {w w' : World} {g g0 : Tags} {T : List Nat} {s r : Nat → Nat} (h : Turn w (fun b => s (g b)) w' g0 T) {x t : Nat} (hs : ∀ y, s y = x → y = t) (hr : r x = t) {e : TypeId} {size : Nat} {v : Value} {n : Nat} {xs : List Value} (hv : Owns w' g0 x e size v n xs) : Owns w' (g.back g0 w.heap.size r) t e size v n xs := by
  obtain ⟨k, ho, hk⟩ := hv
  exact ⟨k, ho, fun b hb => back_tag h hs hr b (hk b hb)⟩

/-- The same facts under other names. -/
theorem Bytes.named {w : World} {g : Tags} {t : Nat} {v : Value} {l : List UInt8} (h : Bytes w g t v l) (s : Nat → Nat) : Bytes w (fun b => s (g b)) (s t) v l := BytesIn.mono h fun b _ hb => by show s (g b) = s t; rw [hb]
theorem Owns.named {w : World} {g : Tags} {t : Nat} {e : TypeId} {size : Nat} {v : Value} {n : Nat} {xs : List Value} (h : Owns w g t e size v n xs) (s : Nat → Nat) : Owns w (fun b => s (g b)) (s t) e size v n xs := by
  obtain ⟨k, ho, hk⟩ := h
  exact ⟨k, ho, fun b hb => by show s (g b) = s t; rw [hk b hb]⟩
end Go.My

/- A range over a function: the statement, by its iterator's contract. No program in sight. -/
namespace Go.My
open Go.RowKit

/-- A call of yield is one round of the loop l. -/
def YieldsTo (P : Program) (l : Nat) (args : Array Value) (W : World) (R : Ending → World → Prop) : Prop :=
  ∃ fn tmps assign body, (Instr.yield l args).run P W = .ok (.round l fn tmps assign body) W ∧ RoundIn Fence.wide 4 P l fn tmps assign body W R

theorem wp_range {P : Program} {g : Operand} {ps : Array Tmp} {assign body : Code} {Q : Exit → Act → World → Prop} {a : Act} {w : World} {gf : Nat} {lb : Array Value}
    (hg : a.eval g = .func (.func gf) #[] lb) (eg : ∀ args w, (callFunc gf args).run P w = .ok (.enter gf args) w)
    (h : ∀ fn : FuncId, Calls P gf (#[.func (.yield (w.heap.size + 1)) #[] #[]] ++ lb)
      ((w.alloc (.deferred (some []))).alloc (.loop { state := .ready, pending := none, fn := fn, tmps := a.tmps, params := ps, assign := assign, body := body, defers := w.heap.size }))
      (rangePost Fence.wide 5 P (w.heap.size + 1) Q { a with defers := { target := .collected w.heap.size, args := #[] } :: a.defers })) :
    (Code.rangeFunc g ps assign body).wp P Q a w := by
  refine (wpIn_wide (n := 5)).1 (wpIn_rangeFunc fun fn _ => ?_)
  have h1 := h fn
  have h2 := run_enterLoop_outer (P := P) (w := w) fn a.tmps ps assign body
  generalize (w.alloc (.deferred (some []))).alloc (.loop { state := .ready, pending := none, fn := fn, tmps := a.tmps, params := ps, assign := assign, body := body, defers := w.heap.size }) = W1 at h1 h2
  have h3 : (resolve a.eval (rangeCall g (w.heap.size + 1)) 0).run P W1 = .ok { target := .fn (.func gf) lb, args := #[.func (.yield (w.heap.size + 1)) #[] #[]] } W1 := by
    simp only [resolve, hg]
    simp [go_sem]
  have h4 : (invoke (.fn (.func gf) lb) #[.func (.yield (w.heap.size + 1)) #[] #[]]).run P W1 = .ok (.enter gf (#[.func (.yield (w.heap.size + 1)) #[] #[]] ++ lb)) W1 := by
    simp [invoke, go_sem, eg]
  exact ⟨w.heap.size + 1, [{ target := .collected w.heap.size, args := #[] }], W1, _, W1, gf, _, W1, h2, h3, fun _ _ => trivial, h4, fun _ => by decide, callsIn_wide.2 h1⟩

/-- One cell of its own. -/
def Box1 (w : World) (g : Tags) (b : Nat) (ty : TypeId) (t : Nat) (cs : Array Value) : Prop := w.heap[b]? = some (.cells cs ty (0, 0)) ∧ g b = t
theorem Box1.lt {w : World} {g : Tags} {b : Nat} {ty : TypeId} {t : Nat} {cs : Array Value} (h : Box1 w g b ty t cs) : b < w.heap.size := (Array.getElem?_eq_some_iff.1 h.1).1
theorem Box1.turn {w w' : World} {g g' : Tags} {T : List Nat} {b : Nat} {ty : TypeId} {t : Nat} {cs : Array Value} (h : Box1 w g b ty t cs) (k : Turn w g w' g' T) (ht : t ∉ T) : Box1 w' g' b ty t cs :=
  ⟨(k.block b h.lt (by rw [h.2]; exact ht)).trans h.1, (k.old b h.lt).trans h.2⟩
theorem Box1.cell {w : World} {g : Tags} {b : Nat} {ty : TypeId} {t : Nat} {cs : Array Value} (h : Box1 w g b ty t cs) (i : Nat) : w.cell? ⟨b, i, none⟩ = cs[i]? ∧ w.frozen? ⟨b, i, none⟩ = false :=
  ⟨cell_of_row w b i _ _ _ h.1, frozen_of_row w b i _ _ h.1⟩
theorem Box1.alloc (w : World) (g : Tags) (ty : TypeId) (t : Nat) (cs : Array Value) : Box1 (w.alloc (.cells cs ty)) (g.ext w.heap.size t) w.heap.size ty t cs :=
  ⟨heap_alloc_new w _, Tags.ext_new _ _ _ _ (Nat.le_refl _)⟩
theorem Box1.store {w : World} {g : Tags} {b : Nat} {ty : TypeId} {t : Nat} {cs : Array Value} (h : Box1 w g b ty t cs) (i : Nat) (v : Value) :
    Turn w g (w.setCell ⟨b, i, none⟩ v) g [t] ∧ Box1 (w.setCell ⟨b, i, none⟩ v) g b ty t (cs.setIfInBounds i v) := by
  refine ⟨?_, heap_setCell_same w b i _ _ v h.1, h.2⟩
  have := Turn.setCell w g ⟨b, i, none⟩ v (by simp) rfl rfl rfl
  rw [h.2] at this; exact this
end Go.My
