/- Trees, as the document has them: the reader: an expression and what ends it; a block. -/
import Derived.Test.YtcldcigopkfmmaaGreatDoorRrExprQ
namespace Go.Nd
theorem ends_map (k : Nat) (t : Tx) (ts : List Tx) : ends k t ts = ((expr ts).then_ fun x q => must [59] [x] q).map fun l => ⟨k, t, Ns.of l, .nil, .nil⟩ := by
  unfold ends
  cases expr ts with
  | bad q => rfl
  | ok x q =>
    show must [59] _ q = R.map _ (must [59] [x] q)
    cases q with
    | nil => rfl
    | cons u q => unfold must; simp only; split <;> rfl
theorem gate_map {α β : Type} (f : α → β) (bad : Bool) (ts : List Tx) (r : R α) : (gate bad ts r).map f = gate bad ts (r.map f) := by cases bad <;> rfl
theorem must_rest {α β : Type} (s : Tx) (x : α) (y : β) (q : List Tx) : (must s x q).rest = (must s y q).rest ∧ (must s x q).isBad = (must s y q).isBad := by
  cases q with
  | nil => exact ⟨rfl, rfl⟩
  | cons u q => unfold must; simp only; split <;> exact ⟨rfl, rfl⟩
theorem R.Is.must1 {r : R Nd} {x : Nd} (h : r.Is x) (s : Tx) : (r.then_ fun x q => Nd.must s [x] q).Is [x] := by
  cases r with
  | bad q => intro y q' e; cases e
  | ok z q =>
    obtain rfl := h z q rfl
    show (Nd.must s [z] q).Is [z]
    cases q with
    | nil => intro y q' e; cases e
    | cons u q => unfold Nd.must; simp only; split
                  · exact R.Is.ok _ _
                  · exact R.Is.bad _ _
theorem mustG_rest1 (r : R Nd) (s : Tx) : (r.then_ fun x q => must s [x] q).rest = (mustG r.isBad r.rest s).rest ∧ (r.then_ fun x q => must s [x] q).isBad = (mustG r.isBad r.rest s).isBad := by
  cases r with
  | bad q => exact ⟨rfl, rfl⟩
  | ok x q => exact must_rest s [x] () q
end Go.Nd
namespace Go.Proofs.YtcldcigopkfmmaaGreatDoor
open Go.RowKit Go.My Go.Nd

theorem NR.keptR {w w' : World} {rb lo hi : Nat} {v : Value} {x : Nd} (h : NR w TN lo hi v x) (hs : Step w w' (some rb)) (hrb : rb < lo) (hh : hi ≤ w.heap.size) : NR w' TN lo hi v x := h.frame fun b h1 h2 => hs.kept (by omega) (by omega)

set_option maxRecDepth 100000 in
set_option maxHeartbeats 4000000 in
theorem rends_t {rb : Nat} {tv : Value} {xs : List To.T} {inn bad : Bool} {w : World} {ts : List Tx} (h : Rr w rb tv xs ts inn bad) :
    Calls Tryz.prog 110 #[.pointer (some ⟨rb, 0, none⟩)] w (GotLR w rb tv xs inn (gate bad ts ((expr ts).then_ fun x q => must [59] [x] q))) := by
  have hrb := h.lt
  have H := Lib.hid (And.intro h hrb)
  clear h hrb
  go_enter Tryz.func110, Tryz.ntmps110
  go_wp2_with fail
  refine (rexpr_t H.out.1).mono ?_
  rintro e w1 ⟨hs1, h1, v, x, rfl, hN, hi⟩
  obtain ⟨a1, d1, a2, d2, a3, d3, rfl⟩ := hN.form
  obtain ⟨r1, hr⟩ : ∃ r, r = gate bad ts (expr ts) := ⟨_, rfl⟩
  have htot : gate bad ts ((expr ts).then_ fun x q => must [59] [x] q) = r1.then_ fun x q => must [59] [x] q := by rw [hr]; cases bad <;> rfl
  rw [← hr] at h1 hi
  obtain ⟨hA, hn, hz⟩ := Put.new w1 #[.int .u8 (x.kind : Int), .string (tx x.text), .slice a1 x.l.len d1, .slice a2 x.body.len d2, .slice a3 x.els.len d3] TN
  obtain ⟨b3, hb3⟩ : ∃ b3, b3 = w1.heap.size := ⟨_, rfl⟩
  obtain ⟨w3, hw3⟩ : ∃ w3, w3 = w1.alloc (.cells #[.int .u8 (x.kind : Int), .string (tx x.text), .slice a1 x.l.len d1, .slice a2 x.body.len d2, .slice a3 x.els.len d3] TN) := ⟨_, rfl⟩
  rw [← hw3] at hA hn hz
  rw [← hb3] at hn
  have X1 := Lib.hid (And.intro (hs1.trans (Step.of_below hA)) (And.intro (h1.later hA) (And.intro hn (And.intro (hN.later hA (Nat.le_refl _)) (And.intro hi (And.intro htot (And.intro (show rb < b3 by have := H.out.2; have := hs1.size; omega) (show w.heap.size ≤ w1.heap.size ∧ w1.heap.size ≤ w3.heap.size from ⟨hs1.size, hA.size⟩))))))))
  clear hs1 h1 hN hi hr htot hA hn hz
  go_upto_region 2 with fail
  rw [← hw3, ← hb3]
  clear hw3 hb3
  go_wp2_with fail
  refine mu_any X1.out.2.1 [59] fun w4 hs4 h4 => ?_
  have h4' := mustG_rest1 r1 [59]
  rw [← h4'.1, ← h4'.2] at h4
  have hrow := (hs4.kept (heap_lt X1.out.2.2.1) (Nat.ne_of_gt X1.out.2.2.2.2.2.2.1)).trans X1.out.2.2.1
  obtain ⟨x0, x1, x2, x3, x4, _, _, _, _, _⟩ := row5 hrow
  have X4 := Lib.hid (And.intro (X1.out.1.trans hs4) (And.intro h4 (And.intro (NR.keptR X1.out.2.2.2.1 hs4 H.out.2 X1.out.2.2.2.2.2.2.2.2) (And.intro (X1.out.2.2.2.2.1.must1 [59]) hs4.size))))
  clear hs4 h4 h4' hrow
  go_wp2_with fail
  go_ret
  rw [X1.out.2.2.2.2.2.1]
  have hz := X1.out.2.2.2.2.2.2.2
  have hL := LR.one X4.out.2.2.1 hz.1 (Nat.le_trans hz.2 X4.out.2.2.2.2)
  obtain ⟨hA, _, hzz⟩ := Put.new w4 #[.int .u8 (x.kind : Int), .string (tx x.text), .slice a1 x.l.len d1, .slice a2 x.body.len d2, .slice a3 x.els.len d3] TN
  exact ⟨X4.out.1.trans (Step.of_below hA), X4.out.2.1.later hA, _, [x], rfl, hzz ▸ hL, X4.out.2.2.2.1⟩

/-- At the head of a round. -/
structure RbSt (w : World) (rb : Nat) (tv : Value) (xs : List To.T) (inn : Bool) (n m : Nat) (st : List Tx → R Nd) (tot : R (List Nd)) (l : List Nd) (ts : List Tx) (bad : Bool) (v : Value) (wr : World) : Prop where
  plain : tot = gate bad ts ((stmtsT st ts).map (l ++ ·))
  len : bad = false → ts.length ≤ n
  many : bad = false → l.length + ts.length ≤ m
  step : Step w wr (some rb)
  rd : Rr wr rb tv xs ts inn bad
  list : LR wr TN w.heap.size wr.heap.size v (Ns.of l)
def RbAt (w : World) (rb : Nat) (tv : Value) (xs : List To.T) (inn : Bool) (n m : Nat) (st : List Tx → R Nd) (tot : R (List Nd)) (gk : Nat) (v : Value) (wr : World) : Prop :=
  ∃ l ts bad, gk = (if bad then 0 else ts.length + 1) ∧ RbSt w rb tv xs inn n m st tot l ts bad v wr

theorem stmts_step {st : List Tx → R Nd} (hd : ∀ ts, (st ts).Down ts) (ts : List Tx) (h : ts.head? ≠ some [125]) (l : List Nd) {x : Nd} (hi : (st ts).Is x) : (stmtsT st ts).map (l ++ ·) = gate (st ts).isBad (st ts).rest ((stmtsT st (st ts).rest).map (l ++ [x] ++ ·)) := by
  cases hr : st ts with
  | bad q =>
    rw [show gate (R.bad q : R Nd).isBad (R.bad q : R Nd).rest ((stmtsT st (R.bad q : R Nd).rest).map (l ++ [x] ++ ·)) = .bad q from rfl]
    cases ts with
    | nil => show R.map _ (R.map _ (st [])) = _; rw [hr]; rfl
    | cons s r => rw [stmtsT_more hd _ h (by simp), hr]; rfl
  | ok y q =>
    obtain rfl := hi y q hr
    have hne : ts ≠ [] := fun e => by subst e; have := (hd []).lt hr; simp at this
    rw [stmtsT_more hd ts h hne, hr]
    show R.map _ (R.map _ (stmtsT st q)) = R.map _ (stmtsT st q)
    rw [R.map_map]
    congr 1
    funext a
    simp

set_option maxRecDepth 100000 in
set_option maxHeartbeats 8000000 in
theorem rblock_t {rb : Nat} {tv : Value} {xs : List To.T} {inn : Bool} {n : Nat} {st : List Tx → R Nd} (hread : RReads 60 rb tv xs inn n st) (hd : ∀ ts, (st ts).Down ts) {w : World} {ts : List Tx} {bad : Bool} (hn : ts.length ≤ n + 1) (h : Rr w rb tv xs ts inn bad) :
    Calls Tryz.prog 108 #[.pointer (some ⟨rb, 0, none⟩)] w (GotLR w rb tv xs inn (gate bad ts (block st ts))) := by
  have hrb := h.lt
  have hle := h.le
  have hlen := h.len
  have H := Lib.hid (And.intro h (And.intro hn (And.intro hrb (And.intro hle hlen))))
  have HR := Lib.hid (And.intro hread hd)
  clear h hn hread hd hrb hle hlen
  go_enter Tryz.func108, Tryz.ntmps108
  go_wp2_with fail
  refine mu_any H.out.1 [123] fun w1 hs1 h1 => ?_
  obtain ⟨tot, ht⟩ : ∃ tot, tot = gate bad ts (block st ts) := ⟨_, rfl⟩
  have HTT := Lib.hid ht
  have hst0 : RbSt w rb tv xs inn n ts.length st tot [] (mustG bad ts [123]).rest (mustG bad ts [123]).isBad (.slice none 0 0) w1 := by
    have hkey : tot = gate (mustG bad ts [123]).isBad (mustG bad ts [123]).rest ((stmtsT st (mustG bad ts [123]).rest).map ([] ++ ·)) ∧ ((mustG bad ts [123]).isBad = false → (mustG bad ts [123]).rest.length + 1 ≤ ts.length) := by
      rw [ht]
      rw [show (fun (x : List Nd) => [] ++ x) = id from funext fun x => List.nil_append x]
      have hid : ∀ z : R (List Nd), z.map id = z := fun z => by cases z <;> rfl
      rw [hid]
      unfold mustG
      cases bad with
      | true => exact ⟨rfl, fun e => by cases e⟩
      | false =>
        rw [gate_ok, gate_ok]
        cases ts with
        | nil => exact ⟨rfl, fun e => by cases e⟩
        | cons s r =>
          unfold must block
          simp only
          by_cases hs : s = [123]
          · rw [if_pos hs, if_pos hs]; exact ⟨rfl, fun _ => by show r.length + 1 ≤ _; simp⟩
          · rw [if_neg hs, if_neg hs]; exact ⟨rfl, fun e => by cases e⟩
    exact ⟨hkey.1, fun e => by have := hkey.2 e; have := H.out.2.1; omega, fun e => by have := hkey.2 e; simp; omega, hs1, h1, LR.nil _ _ _ _⟩
  obtain ⟨ts0, hts0⟩ : ∃ ts0, ts0 = (mustG bad ts [123]).rest := ⟨_, rfl⟩
  obtain ⟨bad0, hbad0⟩ : ∃ bad0, bad0 = (mustG bad ts [123]).isBad := ⟨_, rfl⟩
  rw [← hts0, ← hbad0] at hst0
  have X1 := Lib.hid hst0
  clear hst0 hs1 h1 ht hts0 hbad0
  go_wp2_with fail
  go_loopg [3] (if bad0 then 0 else ts0.length + 1) (fun gk v3 wr => RbAt w rb tv xs inn n ts.length st tot gk v3 wr)
  case atStart => exact ⟨[], ts0, bad0, rfl, X1.out⟩
  case round =>
    obtain ⟨l, ts1, bad1, rfl, hst⟩ := hrel
    obtain ⟨lo1, lc1, rfl⟩ := hst.list.form
    obtain ⟨_, _, _, c3, _, _, _⟩ := hst.rd.cell
    have HS := Lib.hid hst
    clear hst X1
    cases bad1 with
    | true =>
      go_wp2_with fail
      go_ret
      rw [← HTT.out, HS.out.plain, gate_bad]
      exact ⟨HS.out.step, HS.out.rd, _, l, rfl, HS.out.list, R.Is.bad _ _⟩
    | false =>
      by_cases hh : ts1.head? = some [125]
      · obtain ⟨q, rfl⟩ := head_form hh
        clear hh
        go_wp2_with fail
        refine tk_yes HS.out.rd fun w4 hs4 h4 => ?_
        have X4 := Lib.hid (And.intro hs4 h4)
        clear hs4 h4
        go_wp2_with fail
        go_ret
        rw [← HTT.out, HS.out.plain, gate_ok, stmtsT_end]
        show GotLR w rb tv xs inn (.ok (l ++ []) q) _ _
        rw [List.append_nil]
        exact ⟨HS.out.step.trans X4.out.1, X4.out.2, _, l, rfl, LR.mono (LR.stepped HS.out.list X4.out.1 H.out.2.2.1 (Nat.le_refl _)) (Nat.le_refl _) X4.out.1.size, R.Is.ok _ _⟩
      · have HH := Lib.hid hh
        clear hh
        go_wp2_with fail
        refine tk_no HS.out.rd [125] (No.head HH.out _) ?_
        go_wp2_with fail
        refine (HR.out.1 wr ts1 false (HS.out.len rfl) HS.out.rd).mono ?_
        rintro e w2 ⟨hs2, h2, v, x, rfl, hN, hi⟩
        obtain ⟨a1, d1, a2, d2, a3, d3, rfl⟩ := hN.form
        rw [gate_ok] at h2 hi
        have hA := Put.new w2 #[.int .u8 (x.kind : Int), .string (tx x.text), .slice a1 x.l.len d1, .slice a2 x.body.len d2, .slice a3 x.els.len d3] TN
        have hN2 := hN.later hA.1 (Nat.le_refl _)
        have hL2 := (LR.stepped HS.out.list hs2 H.out.2.2.1 (Nat.le_refl _)).later hA.1 hs2.size
        have X2 := Lib.hid (And.intro hs2 (And.intro h2 (And.intro hi (And.intro hA (And.intro hN2 hL2)))))
        have hm : (l.length + 1) * 96 ≤ 140737488351232 := by have := HS.out.many rfl; have := H.out.2.2.2.1; have := H.out.2.2.2.2; omega
        have HM := Lib.hid hm
        rw [Ns.len_of]
        clear hs2 h2 hi hA hN hN2 hL2 hm
        go_wp2_with (at_builtin; refine wpList_node _ rfl (.tmp 16) (.tmp 19) rfl nodeEl (v := .slice lo1 l.length lc1) (l := l) (lo := w.heap.size) (hi := wr.heap.size) (hi2 := w2.heap.size) rfl (by have := X2.out.2.2.2.2.2; rw [Ns.len_of] at this; exact this) X2.out.2.2.2.2.1 (y := .slice (some ⟨w2.heap.size, 0, none⟩) 1 1) rfl (Src.lit #[.int .u8 (x.kind : Int), .string (tx x.text), .slice a1 x.l.len d1, .slice a2 x.body.len d2, .slice a3 x.els.len d3] TN rfl rfl) HS.out.step.size X2.out.1.size (by rw [X2.out.2.2.2.1.2.2]; omega) HM.out ?_; intro ao cp w3 hL hB; have X3 := Lib.hid (And.intro hL hB); clear hL hB)
        have h3 : Rr w3 rb tv xs (st ts1).rest inn (st ts1).isBad := (X2.out.2.1.later X2.out.2.2.2.1.1).keep X3.out.2.size fun k hk => X3.out.2.block k (by have := H.out.2.2.1; omega)
        have st3 : Step w w3 (some rb) := by
          have s2 := (HS.out.step.trans X2.out.1).trans (Step.of_below (row := some rb) X2.out.2.2.2.1.1)
          have hB := X3.out.2
          exact ⟨hB.os.trans s2.os, hB.tape.trans s2.tape, hB.output.trans s2.output, Nat.le_trans s2.size hB.size, fun k hk hk' => (hB.block k hk).trans (s2.block k hk hk')⟩
        have hdn := HR.out.2 ts1
        have hlt : (st ts1).isBad = false → (st ts1).rest.length < ts1.length := fun e => by
          cases hr : st ts1 with
          | bad q => rw [hr] at e; cases e
          | ok y q => exact hdn.lt hr
        have hstep := stmts_step HR.out.2 ts1 HH.out l X2.out.2.2.1
        have hpl := HS.out.plain
        rw [gate_ok, hstep] at hpl
        have hnew : RbSt w rb tv xs inn n ts.length st tot (l ++ [x]) (st ts1).rest (st ts1).isBad (.slice ao (l.length + 1) cp) w3 :=
          ⟨hpl, fun e => by have := hlt e; have := HS.out.len rfl; omega, fun e => by have := hlt e; have := HS.out.many rfl; rw [List.length_append, List.length_singleton]; omega, st3, h3, X3.out.1⟩
        have X5 := Lib.hid (And.intro hnew hlt)
        clear hnew hlt hpl hstep hdn st3 h3 X2 X3
        generalize st ts1 = r1 at X5
        obtain ⟨ts2, hts2⟩ : ∃ ts2, ts2 = r1.rest := ⟨_, rfl⟩
        obtain ⟨bad2, hbad2⟩ : ∃ bad2, bad2 = r1.isBad := ⟨_, rfl⟩
        rw [← hts2, ← hbad2] at X5
        clear hts2 hbad2
        go_roundg (if bad2 then 0 else ts2.length + 1)
        case measure =>
          cases bad2 with
          | true => simp
          | false => have := X5.out.2 rfl; simp; omega
        case rel => exact ⟨l ++ [x], ts2, bad2, rfl, X5.out.1⟩
end Go.Proofs.YtcldcigopkfmmaaGreatDoor
