/- Trees: the reader: texts in new memory; several names. -/
import Derived.Test.YtobpnjnfpgcpaaaGreatDoorPxStmT
import Derived.Test.YtobpnjnfpgcpaaaGreatDoorTrA3
namespace Go.Proofs.YtobpnjnfpgcpaaaGreatDoor
open Go.RowKit Go.My Go.Nd

abbrev TS : TypeId := 9
theorem strEl : Elem Tryz.prog 48 9 1 16 (.string ⟨#[]⟩) := Elem.mk' Tryz.underlying48 (by kernel_rfl) rfl (by decide)

/-- A list of texts; F: its block. -/
def TF (w : World) (F : List Nat) (v : Value) (l : List Tx) : Prop := ∃ k, F = k.toList ∧ Own w TS 1 v l.length (l.map fun t => .string (tx t)) k ∧ l.length * 16 ≤ 140737488351232 ∧ ∀ t ∈ l, t.length ≤ 140737488351232
def TR (w : World) (lo hi : Nat) (v : Value) (l : List Tx) : Prop := ∃ F, TF w F v l ∧ InR lo hi F

theorem TF.frame {w w' : World} {F : List Nat} {v : Value} {l : List Tx} (h : TF w F v l) (hs : ∀ b ∈ F, w'.heap[b]? = w.heap[b]?) : TF w' F v l := by
  obtain ⟨k, rfl, h1, h2⟩ := h
  exact ⟨k, rfl, h1.frame fun b hb => hs b (by subst hb; simp), h2⟩
theorem TR.frame {w w' : World} {lo hi : Nat} {v : Value} {l : List Tx} (h : TR w lo hi v l) (hs : ∀ b, lo ≤ b → b < hi → w'.heap[b]? = w.heap[b]?) : TR w' lo hi v l := by
  obtain ⟨F, h1, h2⟩ := h
  exact ⟨F, h1.frame fun b hb => hs b (h2.2 b hb).1 (h2.2 b hb).2, h2⟩
theorem TR.mono {w : World} {lo hi lo' hi' : Nat} {v : Value} {l : List Tx} (h : TR w lo hi v l) (h1 : lo' ≤ lo) (h2 : hi ≤ hi') : TR w lo' hi' v l := by obtain ⟨F, k1, k2⟩ := h; exact ⟨F, k1, k2.mono h1 h2⟩
theorem TR.nil (w : World) (lo hi : Nat) : TR w lo hi (.slice none 0 0) [] := ⟨[], ⟨none, rfl, Own.nil w TS 1, Nat.zero_le _, fun _ h => by cases h⟩, InR.nil _ _⟩
theorem TR.form {w : World} {lo hi : Nat} {v : Value} {l : List Tx} (h : TR w lo hi v l) : ∃ a c, v = .slice a l.length c := by obtain ⟨F, ⟨k, _, h, _⟩, _⟩ := h; exact own_form h
theorem TR.later {w w' : World} {lo hi : Nat} {v : Value} {l : List Tx} (h : TR w lo hi v l) (hb : Below w.heap.size w w') (hh : hi ≤ w.heap.size) : TR w' lo hi v l := h.frame fun b _ hb' => hb.block b (by omega)
theorem TR.kept {w w' : World} {rb lo hi : Nat} {v : Value} {l : List Tx} (h : TR w lo hi v l) (hs : Step w w' (some rb)) (hrb : rb < lo) (hh : hi ≤ w.heap.size) : TR w' lo hi v l := h.frame fun b h1 h2 => hs.kept (by omega) (by omega)

theorem TF.texts {w : World} {S : Nat → Prop} {F : List Nat} {v : Value} {l : List Tx} (h : TF w F v l) (hS : ∀ b ∈ F, S b) : TextsIn w S false v l := by
  obtain ⟨k, rfl, ho, h3, h4⟩ := h
  obtain ⟨h1, h2⟩ := ho
  rcases h2 with ⟨rfl, h0, _⟩ | ⟨b, off, cap, cur, rfl, rfl, hh, h5, h6, h7, h8⟩
  · have : l = [] := List.eq_nil_of_length_eq_zero h0
    subst this
    exact ⟨none, 0, rfl, Nat.le_refl _, Nat.zero_le _, Nat.zero_le _, fun e => (by cases e), fun i hi => absurd hi (Nat.not_lt_zero _)⟩
  · refine ⟨_, cap, rfl, h5, h6, h3, fun e => (by cases e), fun i hi => ⟨b, off, rfl, hS b (by simp), ?_, h4 _ (List.getElem_mem hi)⟩⟩
    have hj : i < l.length * 1 := by omega
    have : (l.map fun t => Value.string (tx t))[i]? = some (.string (tx l[i])) := by simp [hi]
    rw [cell_of_row w b (off + i) cur TS (0, 0) hh, ← this, ← h8, List.getElem?_take, List.getElem?_drop, if_pos hj]
    simp

/-- What a call that reads a text does. -/
def GotS (w : World) (rb : Nat) (tv : Value) (xs : List To.T) (inn : Bool) (r : R Tx) (e : Ending) (w' : World) : Prop :=
  Step w w' (some rb) ∧ Rd w' rb tv xs r.rest inn ∧ match r with | .ok s _ => e = .returned (.string (bs s)) ∧ s.length ≤ 65536 | .bad _ => e = .panicked wrongChain
def GotT (w : World) (rb : Nat) (tv : Value) (xs : List To.T) (inn : Bool) (r : R (List Tx)) (e : Ending) (w' : World) : Prop :=
  Step w w' (some rb) ∧ Rd w' rb tv xs r.rest inn ∧ match r with | .ok l _ => ∃ v, e = .returned v ∧ TR w' w.heap.size w'.heap.size v l | .bad _ => e = .panicked wrongChain

theorem name_g {w : World} {rb : Nat} {tv : Value} {xs : List To.T} {ts : List Tx} {inn : Bool} (h : Rd w rb tv xs ts inn) : Calls Tryz.prog 92 #[.pointer (some ⟨rb, 0, none⟩)] w (GotS w rb tv xs inn (nameOf ts)) := by
  cases ts with
  | nil => exact rname_no h (by decide) fun w' hb => ⟨Step.of_below hb, h.later hb, rfl⟩
  | cons s r =>
    have hl : s.length ≤ 65536 := h.short0 0
    cases hs : To.name s with
    | true =>
      refine rname_yes h hs fun w' hst h' => ?_
      rw [show nameOf (s :: r) = .ok s r by unfold nameOf; simp only; rw [if_pos hs]]
      exact ⟨hst, h', rfl, hl⟩
    | false =>
      refine rname_no h hs fun w' hb => ?_
      rw [show nameOf (s :: r) = .bad (s :: r) by unfold nameOf; simp only; rw [if_neg (by rw [hs]; decide)]]
      exact ⟨Step.of_below hb, h.later hb, rfl⟩

structure SvtSt (w : World) (rb : Nat) (tv : Value) (xs : List To.T) (inn : Bool) (m : Nat) (fin : Tx) (tot : R (List Tx)) (l : List Tx) (ts : List Tx) (v : Value) (wr : World) : Prop where
  plain : (sevTail fin nameOf ts).map (l ++ ·) = tot
  many : l.length + ts.length ≤ m
  step : Step w wr (some rb)
  rd : Rd wr rb tv xs ts inn
  list : TR wr w.heap.size wr.heap.size v l
def SvtAt (w : World) (rb : Nat) (tv : Value) (xs : List To.T) (inn : Bool) (m : Nat) (fin : Tx) (tot : R (List Tx)) (gk : Nat) (v : Value) (wr : World) : Prop :=
  ∃ l ts, gk = ts.length ∧ SvtSt w rb tv xs inn m fin tot l ts v wr

/-- One more, appended: what is so behind it. -/
theorem TR.app {w w' : World} {lo hi : Nat} {v v' : Value} {l : List Tx} {s : Tx} (hs : s.length ≤ 65536) (hn : (l.length + 1) * 16 ≤ 140737488351232) (h : TR w lo hi v l) (h1 : lo ≤ hi) (h2 : hi ≤ w.heap.size) :
    ∃ k, Own w TS 1 v l.length (l.map fun t => .string (tx t)) k ∧ (∀ b, k = some b → lo ≤ b ∧ b < hi) ∧ ∀ k', Own w' TS 1 v' (l.length + 1) ((l.map fun t => .string (tx t)) ++ [.string (bs s)]) k' → Step w w' k → (k' = k ∨ ∃ j, k' = some j ∧ w.heap.size ≤ j) → TR w' lo w'.heap.size v' (l ++ [s]) := by
  obtain ⟨F, ⟨k, rfl, h3, h4, h5⟩, h6⟩ := h
  refine ⟨k, h3, fun b hb => h6.2 b (by subst hb; simp), fun k' ho st hk => ⟨k'.toList, ⟨k', rfl, by rw [List.length_append, List.map_append]; exact ho, by simpa using hn, fun t ht => ?_⟩, ?_⟩⟩
  · rcases List.mem_append.1 ht with ht | ht
    · exact h5 t ht
    · simp at ht; subst ht; omega
  · rcases hk with rfl | ⟨j, rfl, hj⟩
    · exact h6.mono (Nat.le_refl _) (Nat.le_trans h2 st.size)
    · exact InR.one.mono (by omega) (ho.lt j rfl)

theorem wpList_text (w : World) {ops : Array Oper} {rest : List Oper} {o : Oper} {a : Act} {Q : Exit → Act → World → Prop} (hgd : o.guard = none) (s x : Operand)
    (ho : o.op = .call { callee := .builtin .append, args := #[s, x], argTypes := #[48, 48] }) {v : Value} {l : List Tx} {lo hi : Nat} {y : Value} {u : Tx}
    (hs : a.eval s = v) (hown : TR w lo hi v l) (hu : u.length ≤ 65536) (hy : a.eval x = y) (hx : Src w 1 y 1 [.string (bs u)]) (h1 : lo ≤ hi) (h2 : hi ≤ w.heap.size) (hn : (l.length + 1) * 16 ≤ 140737488351232)
    (h : ∀ ao cap w', TR w' lo w'.heap.size (.slice ao (l.length + 1) cap) (l ++ [u]) → Below lo w w' → wpList Tryz.prog ops Q rest (a.put o.dst (.slice ao (l.length + 1) cap)) w') : wpList Tryz.prog ops Q (o :: rest) a w := by
  obtain ⟨k, ho', hk, _⟩ := TR.app (w' := w) (v' := v) hu hn hown h1 h2
  refine wpList_append w hgd s x ho strEl hs ho' hy hx (by simp [Value.oneCell']) (by simp only [maxLen]; omega) (by omega) fun v' w' k' q1 q2 q3 => ?_
  obtain ⟨ao, cap, rfl⟩ := own_form q1
  obtain ⟨k2, ho2, _, go⟩ := TR.app (w' := w') (v' := .slice ao (l.length + 1) cap) hu hn hown h1 h2
  have hkk : k2 = k := by
    obtain ⟨_, e1⟩ := ho'
    obtain ⟨_, e2⟩ := ho2
    rcases e1 with ⟨rfl, _, rfl⟩ | ⟨b, off, c, cur, rfl, rfl, _⟩ <;> rcases e2 with ⟨e, _, rfl⟩ | ⟨b', off', c', cur', e, rfl, _⟩
    · rfl
    · cases e
    · cases e
    · cases e; rfl
  subst hkk
  exact h ao cap w' (go k' q1 q2 q3) (q2.below (by have := h1; omega) fun b hb => (hk b hb).1)

theorem SvtSt.more {w : World} {rb : Nat} {tv : Value} {xs : List To.T} {inn : Bool} {m : Nat} {fin : Tx} {tot : R (List Tx)} {l : List Tx} {r q : List Tx} {x : Tx} {v v' : Value} {wr w4 w6 : World} (h : SvtSt w rb tv xs inn m fin tot l ([44] :: r) v wr) (hf : fin ≠ [44])
    (s4 : Step wr w4 (some rb)) (hrd : nameOf r = .ok x q) (h4 : Rd w4 rb tv xs q inn) (hrb : rb < w.heap.size) (hb : Below w.heap.size w4 w6) (hL : TR w6 w.heap.size w6.heap.size v' (l ++ [x])) : SvtSt w rb tv xs inn m fin tot (l ++ [x]) q v' w6 := by
  have hq := (nameOf_down r).lt hrd
  have h2 := h.many
  rw [List.length_cons] at h2
  have st6 : Step w w6 (some rb) := ⟨hb.os.trans (s4.os.trans h.step.os), hb.tape.trans (s4.tape.trans h.step.tape), hb.output.trans (s4.output.trans h.step.output), Nat.le_trans h.step.size (Nat.le_trans s4.size hb.size), fun k hk hk' => (hb.block k hk).trans ((s4.block k (Nat.lt_of_lt_of_le hk h.step.size) hk').trans (h.step.block k hk hk'))⟩
  refine ⟨?_, by rw [List.length_append, List.length_singleton]; omega, st6, h4.keep hb.size fun k hk => hb.block k (by omega), hL⟩
  rw [← h.plain, sevTail_comma nameOf_down hf, hrd]
  show _ = R.map _ (R.map _ _)
  rw [R.map_map]
  congr 1
  funext a
  simp

set_option maxRecDepth 100000 in
set_option maxHeartbeats 4000000 in
theorem sevt_t {rb : Nat} {tv : Value} {xs : List To.T} {inn : Bool} (fin : Tx) (hfin : fin ≠ []) (hf : fin ≠ [44]) {w : World} {ts : List Tx} (h : Rd w rb tv xs ts inn) :
    Calls Tryz.prog 94 #[.pointer (some ⟨rb, 0, none⟩), .string (bs fin), .func (.func 92) #[.pointer (some ⟨rb, 0, none⟩)] #[]] w (GotT w rb tv xs inn (several fin nameOf ts)) := by
  have hrb := h.lt
  have hle := h.le
  have hlen := h.len
  have H := Lib.hid (And.intro h (And.intro trivial (And.intro hrb (And.intro hle hlen))))
  have HF := Lib.hid (And.intro hfin hf)
  clear h hrb hle hlen hfin hf
  go_enter Tryz.func94, Tryz.ntmps94
  go_wp2_with fail
  by_cases hh : ts.head? = some fin
  · obtain ⟨r, rfl⟩ := head_form hh
    refine takes_yes H.out.1 HF.out.1 fun w1 hs1 h1 => ?_
    have X1 := Lib.hid (And.intro hs1 h1)
    clear hs1 h1 hh
    go_wp2_with fail
    go_ret
    rw [several_none]
    exact ⟨X1.out.1, X1.out.2, _, rfl, TR.nil _ _ _⟩
  · refine takes_no H.out.1 fin HF.out.1 hh fun w1 hb1 => ?_
    have HH := Lib.hid hh
    have X1 := Lib.hid hb1
    clear hh hb1
    go_wp2_with fail
    refine (name_g (H.out.1.later X1.out)).mono ?_
    rintro e w2 ⟨hs2, h2, hres⟩
    cases hrd : nameOf ts with
    | bad r =>
      rw [hrd] at hres h2
      subst hres
      go_wp2_with fail
      refine ⟨rfl, ?_⟩
      rw [several_first nameOf_down ts HH.out, hrd]
      exact ⟨(Step.of_below X1.out).trans hs2, h2, rfl⟩
    | ok x r =>
      rw [hrd] at hres h2
      obtain ⟨rfl, hxl⟩ := hres
      have hA := (Put.new w2 #[.string (bs x)] TS)
      have X2 := Lib.hid (And.intro hs2 (And.intro h2 (And.intro hrd (And.intro hA hxl))))
      clear hs2 h2 hrd hA hxl
      go_wp2_with (at_builtin; refine wpList_text _ rfl (.tmp 10) (.tmp 13) rfl (v := .slice none 0 0) (l := []) (lo := w.heap.size) (hi := w.heap.size) rfl (TR.nil _ _ _) X2.out.2.2.2.2 (y := .slice (some ⟨w2.heap.size, 0, none⟩) 1 1) rfl (Src.lit #[.string (bs x)] TS rfl rfl) (Nat.le_refl _) (Nat.le_trans (Nat.le_trans X1.out.size X2.out.1.size) X2.out.2.2.2.1.1.size) (by decide) ?_; intro ao cp w3 hL hB; have X3 := Lib.hid (And.intro hL hB); clear hL hB)
      have hst : SvtSt w rb tv xs inn ts.length fin (several fin nameOf ts) [x] r (.slice ao 1 cp) w3 := by
        have hq := (nameOf_down ts).lt X2.out.2.2.1
        have z1 := X1.out.size
        have z2 := X2.out.1.size
        have hrb := H.out.2.2.1
        have hB' := X3.out.2
        have zA := X2.out.2.2.2.1.2.2
        refine ⟨?_, by simp; omega, ?_, ((X2.out.2.1.later X2.out.2.2.2.1.1).keep hB'.size fun k hk => hB'.block k (by omega)), X3.out.1⟩
        · rw [several_first nameOf_down ts HH.out, X2.out.2.2.1]; rfl
        · have s2 := ((Step.of_below (row := some rb) X1.out).trans X2.out.1).trans (Step.of_below X2.out.2.2.2.1.1)
          exact ⟨hB'.os.trans s2.os, hB'.tape.trans s2.tape, hB'.output.trans s2.output, Nat.le_trans s2.size hB'.size, fun k hk hk' => (hB'.block k hk).trans (s2.block k hk hk')⟩
      have HS := Lib.hid hst
      clear hst X3 X2 X1 HH
      go_loopg [6] r.length (fun gk v6 wr => SvtAt w rb tv xs inn ts.length fin (several fin nameOf ts) gk v6 wr)
      case atStart => exact ⟨[x], r, rfl, HS.out⟩
      case round =>
        obtain ⟨l, ts1, rfl, hst⟩ := hrel
        obtain ⟨lo1, lc1, rfl⟩ := hst.list.form
        have HT := Lib.hid hst
        clear hst HS
        go_wp2_with fail
        by_cases hh : ts1.head? = some fin
        · obtain ⟨r1, rfl⟩ := head_form hh
          refine takes_yes HT.out.rd HF.out.1 fun w4 hs4 h4 => ?_
          have X4 := Lib.hid (And.intro hs4 h4)
          clear hs4 h4 hh
          go_wp2_with fail
          go_ret
          have hpl := HT.out.plain
          rw [show sevTail fin nameOf (fin :: r1) = .ok [] r1 by unfold sevTail; simp only; rw [if_pos trivial]] at hpl
          rw [← hpl]
          show GotT w rb tv xs inn (.ok (l ++ []) r1) _ _
          rw [List.append_nil]
          exact ⟨HT.out.step.trans X4.out.1, X4.out.2, _, rfl, TR.mono (TR.kept HT.out.list X4.out.1 H.out.2.2.1 (Nat.le_refl _)) (Nat.le_refl _) X4.out.1.size⟩
        · refine takes_no HT.out.rd fin HF.out.1 hh fun w4 hb4 => ?_
          have HH := Lib.hid hh
          have X4 := Lib.hid hb4
          clear hh hb4
          go_wp2_with fail
          by_cases hc : ts1.head? = some [44]
          · obtain ⟨r1, rfl⟩ := head_form hc
            refine takes_yes (HT.out.rd.later X4.out) (by decide) fun w5 hs5 h5 => ?_
            have X5 := Lib.hid (And.intro hs5 h5)
            clear hs5 h5 hc
            go_wp2_with (refine must_yes ?_)
            refine (name_g X5.out.2).mono ?_
            rintro e w6 ⟨hs6, h6, hres⟩
            have st6 := ((Step.of_below (row := some rb) X4.out).trans X5.out.1).trans hs6
            cases hrd : nameOf r1 with
            | bad q =>
              rw [hrd] at hres h6
              subst hres
              have X6 := Lib.hid (And.intro st6 (And.intro h6 hrd))
              clear st6 h6 hs6 hrd
              go_wp2_with fail
              refine ⟨rfl, ?_⟩
              rw [← HT.out.plain, sevTail_comma nameOf_down HF.out.2, X6.out.2.2]
              exact ⟨HT.out.step.trans X6.out.1, X6.out.2.1, rfl⟩
            | ok y q =>
              rw [hrd] at hres h6
              obtain ⟨rfl, hyl⟩ := hres
              have hA := (Put.new w6 #[.string (bs y)] TS)
              have hL7 := (TR.kept HT.out.list st6 H.out.2.2.1 (Nat.le_refl _)).later hA.1 st6.size
              have X6 := Lib.hid (And.intro st6 (And.intro h6 (And.intro hrd (And.intro hA (And.intro hyl hL7)))))
              have hm : (l.length + 1) * 16 ≤ 140737488351232 := by have := HT.out.many; have := H.out.2.2.2.1; have := H.out.2.2.2.2; rw [List.length_cons] at *; omega
              have HM := Lib.hid hm
              clear st6 h6 hs6 hrd hA hL7 hm hyl
              go_wp2_with (at_builtin; refine wpList_text _ rfl (.tmp 19) (.tmp 22) rfl (v := .slice lo1 l.length lc1) (l := l) (lo := w.heap.size) (hi := wr.heap.size) rfl X6.out.2.2.2.2.2 X6.out.2.2.2.2.1 (y := .slice (some ⟨w6.heap.size, 0, none⟩) 1 1) rfl (Src.lit #[.string (bs y)] TS rfl rfl) HT.out.step.size (Nat.le_trans X6.out.1.size X6.out.2.2.2.1.1.size) HM.out ?_; intro ao cp w7 hL hB; have X7 := Lib.hid (And.intro hL hB); clear hL hB)
              go_roundg q.length
              case measure => have := (nameOf_down r1).lt X6.out.2.2.1; rw [List.length_cons]; omega
              case rel => exact ⟨l ++ [y], q, rfl, HT.out.more HF.out.2 X6.out.1 X6.out.2.2.1 X6.out.2.1 H.out.2.2.1 ((X6.out.2.2.2.1.1.mono (Nat.le_trans HT.out.step.size X6.out.1.size)).trans X7.out.2) X7.out.1⟩
          · refine takes_no (HT.out.rd.later X4.out) [44] (by decide) hc fun w5 hb5 => ?_
            have X5 := Lib.hid (And.intro hc hb5)
            clear hc hb5
            go_wp2_with (refine must_no ?_)
            refine ⟨rfl, ?_⟩
            rw [← HT.out.plain, sevTail_bad ts1 HH.out X5.out.1]
            exact ⟨HT.out.step.trans (Step.of_below (X4.out.trans (X5.out.2.mono X4.out.size))), (HT.out.rd.later X4.out).later X5.out.2, rfl⟩
end Go.Proofs.YtobpnjnfpgcpaaaGreatDoor
