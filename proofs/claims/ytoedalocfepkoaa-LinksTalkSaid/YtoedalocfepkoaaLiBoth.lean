/- Links: the walk of LinksBoth. -/
import Derived.Test.YtoedalocfepkoaaLiAlive
import Derived.Test.YtoedalocfepkoaaLiFeed
import Derived.Test.YtoedalocfepkoaaSize
namespace Go.Proofs.Ytoedalocfepkoaa
open Go.RowKit Go.My

theorem frames_form {w : World} {S : Nat → Prop} {v : Value} {ls : List (List UInt8)} (h : FramesIn w S v ls) : ∃ ao cap, v = .slice ao ls.length cap := by
  obtain ⟨ao, cap, e, _⟩ := h.open_
  exact ⟨ao, cap, e⟩

/-- APPEND OF A LIST OF ONE'S OWN, FOR THE WALK. -/
theorem append_own {w : World} {ops : Array Oper} {rest : List Oper} {o : Oper} {a : Act} {Q : Exit → Act → World → Prop} (hgd : o.guard = none) (s x : Operand)
    (ho : o.op = .call { callee := .builtin .append, args := #[s, x], argTypes := #[24, 24] }) {g : Tags} {t t' tx : Nat} {v y : Value} {ls fs : List (List UInt8)} (hs : a.eval s = v) (hown : Lists w g t t' v ls) (hy : a.eval x = y) (hx : Lists w g tx t' y fs) (ht : t' ≠ t)
    (hm : ls.length + fs.length ≤ 1000000000)
    (h : ∀ ao cap w' g', Lists w' g' t t' (.slice ao (ls.length + fs.length) cap) (ls ++ fs) → Turn w g w' g' [t] → wpList Try.prog ops Q rest (a.put o.dst (.slice ao (ls.length + fs.length) cap)) w') : wpList Try.prog ops Q (o :: rest) a w := by
  obtain ⟨us, h1, h2, h3⟩ := hown
  obtain ⟨vs, k1, k2, k3⟩ := hx
  have hsrc := RowIn.src k1.row
  rw [k2] at hsrc
  refine wpList_append_t w hgd s x ho listsElem hs h1 hy hsrc ?_ (by unfold maxLen; omega) (by omega) ?_
  · intro u hu
    obtain ⟨j, hj, rfl⟩ := List.getElem_of_mem hu
    exact slice_one (k3 j hj (by omega))
  · intro ao cap w' g' ho' hT
    have e : ls.length + fs.length = (ls ++ fs).length := by simp
    refine h ao cap w' g' ⟨us ++ vs, e ▸ ho', by simp [h2, k2], fun j a b => ?_⟩ hT
    rcases Nat.lt_or_ge j us.length with hj | hj
    · have hj' : j < ls.length := by omega
      rw [List.getElem_append_left hj, List.getElem_append_left hj']
      exact (h3 j hj hj').turn hT (by simpa using ht)
    · have hj' : ls.length ≤ j := by omega
      rw [List.getElem_append_right hj, List.getElem_append_right hj']
      simp only [← h2]
      exact Bytes.turn (k3 (j - us.length) (by simp at a; omega) (by simp at b; omega)) hT (by simpa using ht)

/-- Both are sent. -/
def SndAt (w : World) (ea eb : Nat) (v u : Value) (l m : List (List UInt8)) (gk : Nat) (vi : Value) (wr : World) : Prop :=
  ∃ (i n : Nat) (gr : Tags), n = max l.length m.length ∧ i ≤ n ∧ gk = n - i ∧ vi = .int .i64 (i : Int) ∧ EndIs wr gr 10 ea (Li.still (l.take i) 0 0 false) 0 ∧ EndIs wr gr 20 eb (Li.still (m.take i) 0 0 false) 0 ∧ Since w wr gr ∧ Frames wr gr 0 v l ∧ Frames wr gr 0 u m

theorem sent_take (l : List (List UInt8)) (i : Nat) (h : i < l.length) : sent (Li.still (l.take i) 0 0 false) l[i] = Li.still (l.take (i + 1)) 0 0 false := by
  unfold sent Li.still
  rw [List.take_succ_eq_append_getElem h]
theorem still_over (l : List (List UInt8)) (i : Nat) (h : l.length ≤ i) : Li.still (l.take i) 0 0 false = Li.still (l.take (i + 1)) 0 0 false := by
  rw [List.take_of_length_le h, List.take_of_length_le (by omega)]

/-- What packets that come leave alone. -/
structure RestAt (w0 : World) (v u : Value) (l m : List (List UInt8)) (tp tpb : Nat) (pv : Value) (ps : List (List UInt8)) (te eb : Nat) (s : Li.St) (q : Nat) (tv tb : Nat) (vv : Value) (two : List (List UInt8)) (wr : World) (gr : Tags) : Prop where
  ps : Lists wr gr tp tpb pv ps
  fin : EndIs wr gr te eb s q
  two : Lists wr gr tv tb vv two
  since : Since w0 wr gr
  left : Frames wr gr 0 v l
  right : Frames wr gr 0 u m

theorem RestAt.turn {w0 : World} {v u : Value} {l m : List (List UInt8)} {tp tpb : Nat} {pv : Value} {ps : List (List UInt8)} {te eb : Nat} {s : Li.St} {q : Nat} {tv tb : Nat} {vv : Value} {two : List (List UInt8)} {wr : World} {gr : Tags} (h : RestAt w0 v u l m tp tpb pv ps te eb s q tv tb vv two wr gr)
    {w' : World} {g' : Tags} {T : List Nat} (k : Turn wr gr w' g' T) (h0 : 0 ∉ T) (h1 : tp ∉ T) (h2 : tpb ∉ T) (h3 : ∀ x ∈ T, x < te ∨ te + 3 < x) (h4 : tv ∉ T) (h5 : tb ∉ T) : RestAt w0 v u l m tp tpb pv ps te eb s q tv tb vv two w' g' :=
  ⟨h.ps.turn k h1 h2, h.fin.turn k h3, h.two.turn k h4 h5, h.since.turn k h0, h.left.turn k h0, h.right.turn k h0⟩

/-- After some packets. -/
def FeedAt (X : World → Tags → Prop) (te eb tl tb : Nat) (ps tot : List (List UInt8)) (sEnd : Li.St) (q0 gk : Nat) (vo vk : Value) (wr : World) : Prop :=
  ∃ (k : Nat) (gr : Tags) (s : Li.St) (d r : List (List UInt8)) (q : Nat), k ≤ ps.length ∧ gk = ps.length - k ∧ vk = .int .i64 (k : Int) ∧ EndIs wr gr te eb s q ∧ Lists wr gr tl tb vo d ∧ X wr gr ∧ Li.feed s (ps.drop k) = (r, true, sEnd) ∧ d ++ r = tot ∧ q ≤ q0 + k

theorem feed_start {X : World → Tags → Prop} {te eb tl tb : Nat} {ps dEnd one : List (List UInt8)} {s sEnd : Li.St} {q0 : Nat} {vo : Value} {wr : World} {gr : Tags} (hE : EndIs wr gr te eb s q0) (hL : Lists wr gr tl tb vo one) (hX : X wr gr) (hf : Li.feed s ps = (dEnd, true, sEnd)) :
    FeedAt X te eb tl tb ps (one ++ dEnd) sEnd q0 ps.length vo (.int .i64 0) wr :=
  ⟨0, gr, s, one, dEnd, q0, Nat.zero_le _, rfl, rfl, hE, hL, hX, hf, rfl, Nat.le_refl _⟩

/-- At the head of a turn. -/
def TurnAt (w : World) (ea eb : Nat) (v u : Value) (l m : List (List UInt8)) (gk : Nat) (v1 v2 vi : Value) (wr : World) : Prop :=
  ∃ (i : Nat) (gr : Tags) (a b : Li.St) (one two : List (List UInt8)) (qa qb : Nat), i ≤ 3 ∧ gk = 3 - i ∧ vi = .int .i64 (i : Int) ∧ Li.Good l m gk a b one two ∧ EndIs wr gr 10 ea a qa ∧ EndIs wr gr 20 eb b qb ∧ Lists wr gr 40 23 v1 one ∧ Lists wr gr 41 13 v2 two ∧ Since w wr gr ∧ Frames wr gr 0 v l ∧ Frames wr gr 0 u m ∧ qa ≤ 5000 * i ∧ qb ≤ 5000 * i

set_option maxRecDepth 100000 in
set_option maxHeartbeats 8000000 in
theorem both_in (w : World) (v u : Value) (l m : List (List UInt8)) (hv : FramesIn w (fun b => b < w.heap.size) v l) (hu : FramesIn w (fun b => b < w.heap.size) u m) (hl : l.length ≤ 16) (hm : m.length ≤ 16) (hs : total l + total m ≤ 5000) :
    Calls Try.prog 8 #[v, u] w fun e w' => e = .returned (.bool true) ∧ Below w.heap.size w w' := by
  obtain ⟨la, lc, e0⟩ := frames_form hv
  subst e0
  obtain ⟨ma, mc, e0⟩ := frames_form hu
  subst e0
  have hlb : ∀ b ∈ l, b.length ≤ 65536 := fun b hb => by have := len_le_total l b hb; omega
  have hmb : ∀ b ∈ m, b.length ≤ 65536 := fun b hb => by have := len_le_total m b hb; omega
  have HG := Lib.hid (And.intro (Li.both_good l m hl hm hlb hmb) (And.intro hlb hmb))
  have C0 := Lib.hid (And.intro (Since.start w) (And.intro (show Frames w (fun _ => 0) 0 (.slice la l.length lc) l from FramesIn.mono hv (fun _ _ _ => rfl)) (show Frames w (fun _ => 0) 0 (.slice ma m.length mc) m from FramesIn.mono hu (fun _ _ _ => rfl))))
  have i1 : (l.length : Int) ≤ 16 := by omega
  have i2 : (m.length : Int) ≤ 16 := by omega
  clear hv hu hlb hmb
  go_enter Try.func8, Try.ntmps8
  go_wp2_with fail
  refine alive_t _ (fun _ => 0) 9 fun w1 g1 T1 => ?_
  have C1 := Lib.hid (And.intro (C0.out.1.turn T1 (by decide)) (And.intro (C0.out.2.1.turn T1 (by decide)) (C0.out.2.2.turn T1 (by decide))))
  clear T1 C0
  go_wp2_with fail
  refine (size_said _ _ _ l C1.out.2.1 (fun b hb => by have := HG.out.2.1 b hb; omega) (by omega)).mono ?_
  rintro e w2 ⟨n1, rfl, hn0, hn, rfl⟩
  have HN1 := Lib.hid (hn0 (by omega))
  clear hn0 hn
  go_wp2_with fail
  refine (size_said _ _ _ m C1.out.2.2 (fun b hb => by have := HG.out.2.2 b hb; omega) (by omega)).mono ?_
  rintro e w2 ⟨n2, rfl, hn0, hn, rfl⟩
  have hn1 := HN1.out
  have hn2 := hn0 (by omega)
  have hn12 : (n1 : Int) + (n2 : Int) ≤ 5000 := by omega
  have hn10 : (0 : Int) ≤ (n1 : Int) := by omega
  have hn20 : (0 : Int) ≤ (n2 : Int) := by omega
  clear hn0 hn hn1 hn2 hs
  go_wp2_with fail
  refine new_t _ g1 10 fun ea w2 g2 T2 E2 => ?_
  have C2 := Lib.hid (And.intro (C1.out.1.turn T2 (by decide)) (And.intro (C1.out.2.1.turn T2 (by decide)) (And.intro (C1.out.2.2.turn T2 (by decide)) E2)))
  clear T2 E2 C1
  go_wp2_with fail
  refine new_t _ g2 20 fun eb w3 g3 T3 E3 => ?_
  have C3 := Lib.hid (And.intro (C2.out.1.turn T3 (by decide)) (And.intro (C2.out.2.1.turn T3 (by decide)) (And.intro (C2.out.2.2.1.turn T3 (by decide)) (And.intro (C2.out.2.2.2.turn T3 (by decide)) E3))))
  clear T3 E3 C2
  go_wp2_with fail
  obtain ⟨mx, hmx⟩ : ∃ mx, mx = max l.length m.length := ⟨_, rfl⟩
  go_loopg [7] mx (fun gk vi wr => SndAt w ea eb (.slice la l.length lc) (.slice ma m.length mc) l m gk vi wr)
  case atStart => exact ⟨0, mx, g3, hmx, Nat.zero_le _, rfl, rfl, C3.out.2.2.2.1, C3.out.2.2.2.2, C3.out.1, C3.out.2.1, C3.out.2.2.1⟩
  case round =>
    obtain ⟨i, mx', gr, hmx', hi, rfl, rfl, hA, hB, hS, hL, hM⟩ := hrel
    obtain rfl : mx' = mx := by omega
    have HX := Lib.hid (And.intro hA (And.intro hB (And.intro hS (And.intro hL hM))))
    clear hA hB hS hL hM C3
    have i0 : (0 : Int) ≤ (i : Int) := by omega
    by_cases hil : i < l.length
    · have j1 : (i : Int) < (l.length : Int) := by omega
      obtain ⟨b1, o1, rfl, _, hc1⟩ := FramesIn.cells HX.out.2.2.2.1 (by omega)
      obtain ⟨u1, c1, hu1⟩ := hc1 i hil
      obtain ⟨ua1, uc1, e1⟩ := bytes_form hu1
      subst e1
      have HU1 := Lib.hid hu1
      have hw1 := Lib.hid (show (Li.still (l.take i) 0 0 false).waits.length < 16 by show (l.take i).length < 16; rw [List.length_take]; omega)
      clear hc1 hu1
      go_wp2_with fail
      refine send_ok HX.out.1 HU1.out (HG.out.2.1 _ (List.getElem_mem hil)) hw1.out (by decide) fun w4 g4 T4 E4 => ?_
      rw [sent_take l i hil] at E4
      have C4 := Lib.hid (And.intro E4 (And.intro (HX.out.2.1.turn T4 (by decide)) (And.intro (HX.out.2.2.1.turn T4 (by decide)) (And.intro (HX.out.2.2.2.1.turn T4 (by decide)) (HX.out.2.2.2.2.turn T4 (by decide))))))
      clear T4 E4 HX c1
      by_cases him : i < m.length
      · have j2 : (i : Int) < (m.length : Int) := by omega
        obtain ⟨b2, o2, rfl, _, hc2⟩ := FramesIn.cells C4.out.2.2.2.2 (by omega)
        obtain ⟨u2, c2, hu2⟩ := hc2 i him
        obtain ⟨ua2, uc2, e2⟩ := bytes_form hu2
        subst e2
        have HU2 := Lib.hid hu2
        have hw2 := Lib.hid (show (Li.still (m.take i) 0 0 false).waits.length < 16 by show (m.take i).length < 16; rw [List.length_take]; omega)
        clear hc2 hu2
        go_wp2_with fail
        refine send_ok C4.out.2.1 HU2.out (HG.out.2.2 _ (List.getElem_mem him)) hw2.out (by decide) fun w5 g5 T5 E5 => ?_
        rw [sent_take m i him] at E5
        clear c2
        have X5 := Lib.hid (show SndAt w ea eb (.slice (some ⟨b1, o1, none⟩) l.length lc) (.slice (some ⟨b2, o2, none⟩) m.length mc) l m (mx' - (i + 1)) (.int .i64 ((i : Int) + 1)) w5 from ⟨i + 1, mx', g5, hmx, by omega, rfl, by go_num, C4.out.1.turn T5 (by decide), E5, C4.out.2.2.1.turn T5 (by decide), C4.out.2.2.2.1.turn T5 (by decide), C4.out.2.2.2.2.turn T5 (by decide)⟩)
        clear T5 E5 C4
        go_wp2_with fail
        go_roundg (mx' - (i + 1))
        case measure => omega
        case rel => exact X5.out
      · have j2 : (m.length : Int) ≤ (i : Int) := by omega
        have X5 := Lib.hid (show SndAt w ea eb (.slice (some ⟨b1, o1, none⟩) l.length lc) (.slice ma m.length mc) l m (mx' - (i + 1)) (.int .i64 ((i : Int) + 1)) w4 from ⟨i + 1, mx', g4, hmx, by omega, rfl, by go_num, C4.out.1, by rw [← still_over m i (by omega)]; exact C4.out.2.1, C4.out.2.2.1, C4.out.2.2.2.1, C4.out.2.2.2.2⟩)
        clear C4
        go_wp2_with fail
        go_roundg (mx' - (i + 1))
        case measure => omega
        case rel => exact X5.out
    · have j1 : (l.length : Int) ≤ (i : Int) := by omega
      by_cases him : i < m.length
      · have j2 : (i : Int) < (m.length : Int) := by omega
        have C4 := Lib.hid HX.out
        clear HX
        obtain ⟨b2, o2, rfl, _, hc2⟩ := FramesIn.cells C4.out.2.2.2.2 (by omega)
        obtain ⟨u2, c2, hu2⟩ := hc2 i him
        obtain ⟨ua2, uc2, e2⟩ := bytes_form hu2
        subst e2
        have HU2 := Lib.hid hu2
        have hw2 := Lib.hid (show (Li.still (m.take i) 0 0 false).waits.length < 16 by show (m.take i).length < 16; rw [List.length_take]; omega)
        clear hc2 hu2
        go_wp2_with fail
        refine send_ok C4.out.2.1 HU2.out (HG.out.2.2 _ (List.getElem_mem him)) hw2.out (by decide) fun w5 g5 T5 E5 => ?_
        rw [sent_take m i him] at E5
        clear c2
        have X5 := Lib.hid (show SndAt w ea eb (.slice la l.length lc) (.slice (some ⟨b2, o2, none⟩) m.length mc) l m (mx' - (i + 1)) (.int .i64 ((i : Int) + 1)) w5 from ⟨i + 1, mx', g5, hmx, by omega, rfl, by go_num, by rw [← still_over l i (by omega)]; exact C4.out.1.turn T5 (by decide), E5, C4.out.2.2.1.turn T5 (by decide), C4.out.2.2.2.1.turn T5 (by decide), C4.out.2.2.2.2.turn T5 (by decide)⟩)
        clear T5 E5 C4
        go_wp2_with fail
        go_roundg (mx' - (i + 1))
        case measure => omega
        case rel => exact X5.out
      · have j2 : (m.length : Int) ≤ (i : Int) := by omega
        have hlt : l.take i = l := List.take_of_length_le (by omega)
        have hmt : m.take i = m := List.take_of_length_le (by omega)
        have C4 := Lib.hid (show EndIs wr gr 10 ea (Li.still l 0 0 false) 0 ∧ EndIs wr gr 20 eb (Li.still m 0 0 false) 0 ∧ Since w wr gr ∧ Frames wr gr 0 (.slice la l.length lc) l ∧ Frames wr gr 0 (.slice ma m.length mc) m by rw [← hlt, ← hmt]; rw [hlt, hmt]; have h := HX.out; rw [hlt, hmt] at h; exact h)
        clear HX hlt hmt
        go_wp2_with fail
        obtain ⟨wq, hwq⟩ : ∃ wq, wq = wr := ⟨_, rfl⟩
        rw [← hwq] at C4 ⊢
        clear hwq
        go_loopg [8, 9, 10] 3 (fun gk v1 v2 vi wr => TurnAt w ea eb (.slice la l.length lc) (.slice ma m.length mc) l m gk v1 v2 vi wr)
        case atStart => exact ⟨0, gr, _, _, [], [], 0, 0, by omega, rfl, rfl, HG.out.1, C4.out.1, C4.out.2.1, Lists.nil _ _ _ _, Lists.nil _ _ _ _, C4.out.2.2.1, C4.out.2.2.2.1, C4.out.2.2.2.2, by omega, by omega⟩
        case round =>
          obtain ⟨x, gx, a, b, one, two, qa, qb, hx, rfl, rfl, hG, hA, hB, hO, hT, hS, hL, hM, hqa, hqb⟩ := hrel
          have x0 : (0 : Int) ≤ (x : Int) := by omega
          obtain ⟨oa, oc, rfl⟩ := hO.form
          obtain ⟨ta, tc, rfl⟩ := hT.form
          clear C4 HG
          by_cases hx3 : x < 3
          · have x1 : (x : Int) < 3 := by omega
            obtain ⟨z, hz⟩ : ∃ z, 3 - x = z + 1 := ⟨2 - x, by omega⟩
            rw [hz] at hG
            obtain ⟨d1, b1, d2, a1, f1, f2, s1, s2, s3, s4, G⟩ := hG
            have HX := Lib.hid (And.intro hA (And.intro hB (And.intro hO (And.intro hT (And.intro hS (And.intro hL hM))))))
            have HF := Lib.hid (And.intro f1 (And.intro f2 (And.intro s1 (And.intro s2 G))))
            clear hA hB hO hT hS hL hM f1 f2 s1 s2 G
            obtain ⟨ps, hps⟩ : ∃ ps, Li.packets a = ps := ⟨_, rfl⟩
            obtain ⟨qs, hqs⟩ : ∃ qs, Li.packets b1 = qs := ⟨_, rfl⟩
            rw [hps] at HF s3
            rw [hqs] at HF s4
            have HPS := Lib.hid (And.intro hps hqs)
            clear hps hqs
            have hpl : (ps.length : Int) ≤ 1000 := by omega
            have hql : (qs.length : Int) ≤ 1000 := by omega
            go_wp2_with fail
            refine packets_k 30 31 HX.out.1 (by decide) (by decide) (by decide) (by decide) (by decide) (by decide) HPS.out.1 fun ap cp w5 g5 T5 L5 E5 => ?_
            have X5 := Lib.hid (And.intro (HX.out.2.1.turn T5 (by decide)) (And.intro (HX.out.2.2.1.turn T5 (by decide) (by decide)) (show RestAt w (.slice la l.length lc) (.slice ma m.length mc) l m 30 31 (.slice ap ps.length cp) ps 10 ea (Li.quiet a) qa 41 13 (.slice ta two.length tc) two w5 g5 from ⟨L5, E5, HX.out.2.2.2.1.turn T5 (by decide) (by decide), HX.out.2.2.2.2.1.turn T5 (by decide), HX.out.2.2.2.2.2.1.turn T5 (by decide), HX.out.2.2.2.2.2.2.turn T5 (by decide)⟩)))
            clear T5 L5 E5 HX
            go_wp2_with fail
            have FS := Lib.hid (feed_start (X := RestAt w (.slice la l.length lc) (.slice ma m.length mc) l m 30 31 (.slice ap ps.length cp) ps 10 ea (Li.quiet a) qa 41 13 (.slice ta two.length tc) two) X5.out.1 X5.out.2.1 X5.out.2.2 HF.out.1)
            clear X5
            go_loopg [8, 12] ps.length (fun gk vo vk wr => FeedAt (RestAt w (.slice la l.length lc) (.slice ma m.length mc) l m 30 31 (.slice ap ps.length cp) ps 10 ea (Li.quiet a) qa 41 13 (.slice ta two.length tc) two) 20 eb 40 23 ps (one ++ d1) b1 qb gk vo vk wr)
            case atStart => exact FS.out
            case round =>
              obtain ⟨k, g6, s6, d6, r6, q6, hk, rfl, rfl, hE6, hO6, hX6, hf6, hd6, hq6⟩ := hrel
              obtain ⟨oa, oc, rfl⟩ := hO6.form
              have k0 : (0 : Int) ≤ (k : Int) := by omega
              clear FS
              by_cases hk3 : k < ps.length
              · have k1 : (k : Int) < (ps.length : Int) := by omega
                obtain ⟨fs, s7, r7, hc7, hr7, hf7⟩ := Li.feed_step hf6 hk3
                have hlen7 : d6.length + fs.length ≤ 1000 := by
                  have := HF.out.2.2.1
                  rw [← hd6, hr7] at this
                  simp only [List.length_append] at this
                  omega
                obtain ⟨pb, po, rfl, hpc⟩ := lists_cells hX6.ps (by omega)
                obtain ⟨pu, hpu, hpub⟩ := hpc k hk3
                obtain ⟨pa, pcc, rfl⟩ := bytes_form hpub
                have H6 := Lib.hid (And.intro hE6 (And.intro hO6 (And.intro hX6 (And.intro hd6 (And.intro hpub (And.intro hc7 (And.intro hr7 hf7)))))))
                clear hE6 hO6 hX6 hd6 hpub hc7 hr7 hf7 hf6 hpc
                go_wp2_with fail
                refine came_k 50 H6.out.1 H6.out.2.2.2.2.1 (by omega) (by decide) (by decide) H6.out.2.2.2.2.2.1 rfl fun al cl w7 g7 T7 L7 E7 => ?_
                have X7 := Lib.hid (And.intro E7 (And.intro (H6.out.2.1.turn T7 (by decide) (by decide)) (And.intro L7 (H6.out.2.2.1.turn T7 (by decide) (by decide) (by decide) (by decide) (by decide) (by decide)))))
                clear T7 L7 E7
                go_wp2_with (refine append_own rfl (.tmp 105) (.tmp 106) rfl (g := g7) (t := 40) (t' := 23) (tx := 50) rfl X7.out.2.1 rfl X7.out.2.2.1 (by decide) (by omega) ?_; intro a8 c8 w8 g8 L8 T8; have X8 := Lib.hid (And.intro L8 T8); clear L8 T8)
                go_roundg (ps.length - (k + 1))
                case measure => omega
                case rel => exact ⟨k + 1, g8, s7, d6 ++ fs, r7, q6 + 1, by omega, rfl, by go_num, X7.out.1.turn X8.out.2 (by decide), X8.out.1, X7.out.2.2.2.turn X8.out.2 (by decide) (by decide) (by decide) (by decide) (by decide) (by decide), H6.out.2.2.2.2.2.2.2, by rw [List.append_assoc, ← H6.out.2.2.2.2.2.2.1]; exact H6.out.2.2.2.1, by omega⟩
              · obtain rfl : k = ps.length := by omega
                obtain ⟨rfl, rfl⟩ := Li.feed_done hf6
                rw [List.append_nil] at hd6
                rw [← hd6] at HF
                have H6 := Lib.hid (And.intro hE6 (And.intro hO6 hX6))
                clear hE6 hO6 hX6 hf6 hk3 hk hd6
                go_wp2_with fail
                refine packets_k 32 33 H6.out.1 (by decide) (by decide) (by decide) (by decide) (by decide) (by decide) HPS.out.2 fun aq cq w9 g9 T9 L9 E9 => ?_
                have X9 := Lib.hid (And.intro (H6.out.2.2.fin.turn T9 (by decide)) (And.intro (H6.out.2.2.two.turn T9 (by decide) (by decide)) (show RestAt w (.slice la l.length lc) (.slice ma m.length mc) l m 32 33 (.slice aq qs.length cq) qs 20 eb (Li.quiet s6) q6 40 23 (.slice oa d6.length oc) d6 w9 g9 from ⟨L9, E9, H6.out.2.1.turn T9 (by decide) (by decide), H6.out.2.2.since.turn T9 (by decide), H6.out.2.2.left.turn T9 (by decide), H6.out.2.2.right.turn T9 (by decide)⟩)))
                clear T9 L9 E9 H6
                go_wp2_with fail
                have FS := Lib.hid (feed_start (X := RestAt w (.slice la l.length lc) (.slice ma m.length mc) l m 32 33 (.slice aq qs.length cq) qs 20 eb (Li.quiet s6) q6 40 23 (.slice oa d6.length oc) d6) X9.out.1 X9.out.2.1 X9.out.2.2 HF.out.2.1)
                clear X9
                go_loopg [9, 16] qs.length (fun gk vo vk wr => FeedAt (RestAt w (.slice la l.length lc) (.slice ma m.length mc) l m 32 33 (.slice aq qs.length cq) qs 20 eb (Li.quiet s6) q6 40 23 (.slice oa d6.length oc) d6) 10 ea 41 13 qs (two ++ d2) a1 qa gk vo vk wr)
                case atStart => exact FS.out
                case round =>
                  obtain ⟨k, g10, s10, d10, r10, q10, hk, rfl, rfl, hE10, hO10, hX10, hf10, hd10, hq10⟩ := hrel
                  obtain ⟨ta, tc, rfl⟩ := hO10.form
                  have k0 : (0 : Int) ≤ (k : Int) := by omega
                  clear FS
                  by_cases hk3 : k < qs.length
                  · have k1 : (k : Int) < (qs.length : Int) := by omega
                    obtain ⟨fs, s11, r11, hc11, hr11, hf11⟩ := Li.feed_step hf10 hk3
                    have hlen11 : d10.length + fs.length ≤ 1000 := by
                      have := HF.out.2.2.2.1
                      rw [← hd10, hr11] at this
                      simp only [List.length_append] at this
                      omega
                    obtain ⟨pb, po, rfl, hpc⟩ := lists_cells hX10.ps (by omega)
                    obtain ⟨pu, hpu, hpub⟩ := hpc k hk3
                    obtain ⟨pa, pcc, rfl⟩ := bytes_form hpub
                    have H10 := Lib.hid (And.intro hE10 (And.intro hO10 (And.intro hX10 (And.intro hd10 (And.intro hpub (And.intro hc11 (And.intro hr11 hf11)))))))
                    clear hE10 hO10 hX10 hd10 hpub hc11 hr11 hf11 hf10 hpc
                    go_wp2_with fail
                    refine came_k 50 H10.out.1 H10.out.2.2.2.2.1 (by omega) (by decide) (by decide) H10.out.2.2.2.2.2.1 rfl fun al cl w11 g11 T11 L11 E11 => ?_
                    have X11 := Lib.hid (And.intro E11 (And.intro (H10.out.2.1.turn T11 (by decide) (by decide)) (And.intro L11 (H10.out.2.2.1.turn T11 (by decide) (by decide) (by decide) (by decide) (by decide) (by decide)))))
                    clear T11 L11 E11
                    go_wp2_with (refine append_own rfl (.tmp 127) (.tmp 128) rfl (g := g11) (t := 41) (t' := 13) (tx := 50) rfl X11.out.2.1 rfl X11.out.2.2.1 (by decide) (by omega) ?_; intro a8 c8 w8 g8 L8 T8; have X8 := Lib.hid (And.intro L8 T8); clear L8 T8)
                    go_roundg (qs.length - (k + 1))
                    case measure => omega
                    case rel => exact ⟨k + 1, g8, s11, d10 ++ fs, r11, q10 + 1, by omega, rfl, by go_num, X11.out.1.turn X8.out.2 (by decide), X8.out.1, X11.out.2.2.2.turn X8.out.2 (by decide) (by decide) (by decide) (by decide) (by decide) (by decide), H10.out.2.2.2.2.2.2.2, by rw [List.append_assoc, ← H10.out.2.2.2.2.2.2.1]; exact H10.out.2.2.2.1, by omega⟩
                  · obtain rfl : k = qs.length := by omega
                    obtain ⟨rfl, rfl⟩ := Li.feed_done hf10
                    rw [List.append_nil] at hd10
                    rw [← hd10] at HF
                    have H12 := Lib.hid (And.intro hE10 (And.intro hO10 hX10))
                    clear hE10 hO10 hX10 hf10 hk3 hk hd10
                    go_wp2_with fail
                    go_roundg z
                    case measure => omega
                    case rel => exact ⟨x + 1, g10, s10, Li.quiet s6, d6, d10, q10, q6, by omega, by omega, by go_num, HF.out.2.2.2.2, H12.out.1, H12.out.2.2.fin, H12.out.2.2.two, H12.out.2.1, H12.out.2.2.since, H12.out.2.2.left, H12.out.2.2.right, by omega, by omega⟩
          · obtain rfl : x = 3 := by omega
            obtain ⟨rfl, rfl, hwa, hwb, hpa⟩ := hG
            have HX := Lib.hid (And.intro hA (And.intro hB (And.intro hO (And.intro hT (And.intro hS (And.intro hL hM))))))
            have HW := Lib.hid (And.intro hwa (And.intro hwb hpa))
            clear hA hB hO hT hS hL hM hwa hwb hpa hx3 hx x0
            go_wp2_with fail
            refine (sameFrames_eq _ _ _ _ _ _ HX.out.2.2.1.frames HX.out.2.2.2.2.2.1).mono ?_
            rintro e w13 ⟨rfl, n13, rfl⟩
            have T13 := Turn.drewN wr gx n13
            have X13 := Lib.hid (And.intro (HX.out.1.turn T13 (by decide)) (And.intro (HX.out.2.1.turn T13 (by decide)) (And.intro (HX.out.2.2.2.1.turn T13 (by decide) (by decide)) (And.intro (HX.out.2.2.2.2.1.turn T13 (by decide)) (HX.out.2.2.2.2.2.2.turn T13 (by decide))))))
            clear T13 HX
            go_wp2_with fail
            refine (sameFrames_eq _ _ _ _ _ _ X13.out.2.2.1.frames X13.out.2.2.2.2).mono ?_
            rintro e w14 ⟨rfl, n14, rfl⟩
            have T14 := Turn.drewN (wr.drewN n13) gx n14
            have X14 := Lib.hid (And.intro (X13.out.1.turn T14 (by decide)) (And.intro (X13.out.2.1.turn T14 (by decide)) (X13.out.2.2.2.1.turn T14 (by decide))))
            clear T14 X13
            obtain ⟨w15, hw15⟩ : ∃ w15, w15 = (wr.drewN n13).drewN n14 := ⟨_, rfl⟩
            rw [← hw15] at X14 ⊢
            clear hw15
            go_wp2_with fail
            refine waits_t X14.out.1 ?_
            rw [HW.out.1]
            go_wp2_with fail
            refine waits_t X14.out.2.1 ?_
            rw [HW.out.2.1]
            go_wp2_with fail
            refine packets_k 30 31 X14.out.1 (by decide) (by decide) (by decide) (by decide) (by decide) (by decide) HW.out.2.2 fun ap cp w16 g16 T16 L16 E16 => ?_
            have S16 := Lib.hid (X14.out.2.2.turn T16 (by decide))
            clear T16 L16 E16
            go_wp2_with fail
            go_ret
            exact ⟨rfl, S16.out.below⟩
end Go.Proofs.Ytoedalocfepkoaa
