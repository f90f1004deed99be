/- Shows, as the document has it: the text of a program (under way: the round of a function is left open). -/
import Derived.Test.YtobpnjnfpgcpaaaDoorShRfDT
import Derived.Test.YtobpnjnfpgcpaaaDoorTrA3
import Derived.Test.YtobpnjnfpgcpaaaDoorNdRCheckT
namespace Go.Proofs.YtobpnjnfpgcpaaaDoor
open Go.RowKit Go.My Go.Nd

def sevT (l : List Tx) (k : Nat) : Tx := sepx [44, 32] (l.take k)
theorem sevT_step (l : List Tx) (k : Nat) (h : k < l.length) : sevT l (k + 1) = (if 0 < k then sevT l k ++ [44, 32] else []) ++ l[k] := by
  unfold sevT
  rw [List.take_succ_eq_append_getElem h]
  by_cases h0 : 0 < k
  · rw [if_pos h0]
    exact sepx_more _ _ _ (by
      intro e
      have hl : (l.take k).length = k := by simp; omega
      rw [e, List.length_nil] at hl
      omega)
  · obtain rfl : k = 0 := by omega
    rw [if_neg h0]; rfl
theorem sevT_len (l : List Tx) (k : Nat) : (sevT l k).length ≤ tot l := by
  have h1 := sepx_len [44, 32] (by decide) (l.take k)
  have e : tot l = tot (l.take k) + tot (l.drop k) := by conv => lhs; rw [← List.take_append_drop k l, tot_append]
  unfold sevT; omega
theorem sepx_pre (sep : Tx) : ∀ a b : List Tx, (sepx sep a).length ≤ (sepx sep (a ++ b)).length
  | [], _ => Nat.zero_le _
  | [s], [] => Nat.le_refl _
  | [s], t :: b => by show s.length ≤ (s ++ sep ++ sepx sep (t :: b)).length; simp only [List.length_append]; omega
  | s :: t :: a, b => by
    have ih := sepx_pre sep (t :: a) b
    show (s ++ sep ++ sepx sep (t :: a)).length ≤ (s ++ sep ++ sepx sep (t :: (a ++ b))).length
    rw [List.length_append, List.length_append (bs := sepx sep (t :: (a ++ b)))]
    exact Nat.add_le_add_left ih _
theorem sevT_le (l : List Tx) (k : Nat) : (sevT l k).length ≤ (sepx [44, 32] l).length := by
  have h := sepx_pre [44, 32] (l.take k) (l.drop k)
  rw [List.take_append_drop] at h
  exact h
theorem tot_mem {l : List Tx} : ∀ x ∈ l, x.length ≤ tot l := by
  induction l with
  | nil => intro x hx; cases hx
  | cons s l ih =>
    intro x hx
    show _ ≤ s.length + 2 + tot l
    rcases List.mem_cons.1 hx with rfl | hx
    · omega
    · have := ih x hx; omega
def ArgAt (w4 : World) (l : List Tx) (c : Tx) (gk : Nat) (v4 v7 : Value) (wr : World) : Prop :=
  ∃ j : Nat, j ≤ l.length ∧ gk = l.length - j ∧ v4 = .string (bs (c ++ sevT l j)) ∧ v7 = .int .i64 (j : Int) ∧ Below w4.heap.size w4 wr

set_option maxRecDepth 100000 in
set_option maxHeartbeats 8000000 in
theorem rtext_t {w : World} {B : Nat} {p : Pr} {v1 v2 : Value} (hB : B ≤ w.heap.size) (h1 : FuncsIn w (· < B) false v1 p.funcs) (h2 : Nodes w (· < B) false v2 p.body) (hs : psz p ≤ 1048576) :
    Calls Tryd.prog 11 #[.agg #[v1, v2]] w fun e w' => e = .returned (.tuple #[.string (bs (showP wrapI p).1), .int .i64 ((showP wrapI p).2 : Int)]) ∧ Below w.heap.size w w' := by
  have hA0 := Below.alloc (Below.refl w.heap.size w) (Nat.le_refl _) (.cells #[v1, v2] 37)
  have hsh := prog_short p hs
  have hup := upF_le p
  have hfz : ∀ f ∈ p.funcs, fsz f ≤ 1048576 := fun f hf => by have := fsz_mem f hf; unfold psz at hs; omega
  have hbz : p.body.sz ≤ 1048576 := by unfold psz at hs; omega
  obtain ⟨fs, hfs⟩ : ∃ fs, fs = p.funcs := ⟨_, rfl⟩
  rw [← hfs] at h1 hup hfz
  have HF := Lib.hid hfs.symm
  have HP := Lib.hid (And.intro hsh (And.intro hup (And.intro hfz hbz)))
  have H1 := Lib.hid (h1.below (hA0.mono hB))
  have H2 := Lib.hid (h2.below (hA0.mono hB))
  obtain ⟨a0, c0, rfl⟩ := h1.form
  obtain ⟨a9, c9, rfl⟩ := h2.form
  obtain ⟨_, _, ev, _, _, hr, _, hc⟩ := h1.below (hA0.mono hB)
  cases ev
  have HC := Lib.hid hc
  have l0 : (0 : Int) ≤ (fs.length : Int) := by omega
  have l1 : (fs.length : Int) ≤ 140737488351232 := by omega
  obtain ⟨bp, hbp⟩ : ∃ bp, bp = w.heap.size := ⟨_, rfl⟩
  obtain ⟨w0, hw0⟩ : ∃ w0, w0 = w.alloc (.cells #[.slice a0 fs.length c0, .slice a9 p.body.len c9] 37) := ⟨_, rfl⟩
  have hboxp : ∀ w1, Below w0.heap.size w0 w1 → w1.cell? ⟨bp, 0, none⟩ = some (.slice a0 fs.length c0) ∧ w1.cell? ⟨bp, 1, none⟩ = some (.slice a9 p.body.len c9) := by
    intro w1 hb1
    rw [hw0] at hb1
    rw [hbp]
    have q0 := box_later hb1 0
    have q1 := box_later hb1 1
    simp at q0 q1
    exact ⟨q0, q1⟩
  have HXP := Lib.hid hboxp
  rw [← hw0] at H1 H2 HC hA0
  have Y0 := Lib.hid hA0
  have HBB := Lib.hid (Nat.le_trans hB hA0.size)
  clear hboxp hA0 hc hr h1 h2 hfs hB hsh hup hfz hbz hs
  go_enter Tryd.func11, Tryd.ntmps11
  go_upto_region 1 with fail
  rw [← hbp, ← hw0]
  clear hbp hw0
  obtain ⟨q0, q1⟩ := HXP.out w0 (Below.refl _ _)
  go_wp2_with fail
  have h1' := H1.out
  rw [← HF.out] at h1'
  have hck := rcheck_t (p := p) HBB.out h1' H2.out
  rw [HF.out] at hck
  refine hck.mono ?_
  clear hck h1' q0 q1
  rintro e w1 ⟨rfl, hb⟩
  have K1 := Lib.hid hb
  clear hb
  obtain ⟨cc, hcc⟩ : ∃ cc, cc = check wrapI p := ⟨_, rfl⟩
  rw [← hcc]
  have HCC := Lib.hid hcc.symm
  clear hcc
  obtain ⟨q0, q1⟩ := HXP.out w1 K1.out
  cases cc with
  | false =>
    have HR := Lib.hid (show showP wrapI p = ([], 1) by unfold showP; rw [HCC.out]; rfl)
    go_wp2_with fail
    go_ret2
    exact ⟨by rw [HR.out]; rfl, Y0.out.trans (K1.out.mono Y0.out.size)⟩
  | true =>
    have HOK := Lib.hid (check_parts HCC.out)
    go_wp2_with fail
    go_loopg [4, 5] fs.length (fun gk v4 v5 wr => TxAt w0 fs gk v4 v5 wr)
    case atStart => exact ⟨0, Nat.zero_le _, rfl, rfl, rfl, K1.out⟩
    case round =>
      obtain ⟨i, hi, rfl, rfl, rfl, hb⟩ := hrel
      have i0 : (0 : Int) ≤ (i : Int) := by omega
      have hd := True.intro
      clear q0 q1
      by_cases hlt : i < fs.length
      · have i1 : (i : Int) < (fs.length : Int) := by omega
        have hst := (HOK.out.1 _ (by rw [HF.out]; exact List.getElem_mem hlt) : okf fs[i] = true)
        have hfz := HP.out.2.2.1 _ (List.getElem_mem hlt)
        have hstep := upF_step fs i hlt
        have hle := HP.out.2.1 (i + 1)
        rw [hstep, List.length_append] at hle
        have hpl := HP.out.1
        obtain ⟨g, hg⟩ : ∃ g, g = fs[i] := ⟨_, rfl⟩
        rw [← hg] at hst hfz hstep hle
        obtain ⟨r0, r1⟩ := HXP.out wr hb
        obtain ⟨b, off, v1, v2, rfl, hS, hN⟩ := HC.out i hlt
        have hN' := hN.frame hS fun k hk _ => hb.block k (Nat.lt_of_lt_of_le hk HBB.out)
        obtain ⟨f, hx⟩ : ∃ f, f = fs[i] := ⟨_, rfl⟩
        rw [← hx] at hN'
        have hdr := List.drop_eq_getElem_cons hlt
        rw [← hx] at hdr
        obtain ⟨fname, fargs, fbody⟩ := f
        have d0 := hN'.d0
        have d1 := hN'.d1
        have d2 := hN'.d2
        have ht := hN'.name
        have hA1 := hN'.args
        have hB1 := hN'.body
        obtain ⟨a1, c1, e1⟩ := hA1.form
        obtain ⟨a2, c2, e2⟩ := hB1.form
        subst e1
        subst e2
        simp only at d0 d1 d2 ht hA1 hB1
        have etx : tx fname = bs fname := rfl
        rw [etx] at d0
        have hBr : B ≤ wr.heap.size := Nat.le_trans HBB.out hb.size
        have hA := Below.alloc (Below.refl wr.heap.size wr) (Nat.le_refl _) (.cells #[.string (bs fname), .slice a1 fargs.length c1, .slice a2 fbody.len c2] 47)
        obtain ⟨bx, hbx⟩ : ∃ bx, bx = wr.heap.size := ⟨_, rfl⟩
        obtain ⟨w4, hw4⟩ : ∃ w4, w4 = wr.alloc (.cells #[.string (bs fname), .slice a1 fargs.length c1, .slice a2 fbody.len c2] 47) := ⟨_, rfl⟩
        have hbox : ∀ w1, Below w4.heap.size w4 w1 → w1.cell? ⟨bx, 0, none⟩ = some (.string (bs fname)) ∧ w1.cell? ⟨bx, 1, none⟩ = some (.slice a1 fargs.length c1) ∧ w1.cell? ⟨bx, 2, none⟩ = some (.slice a2 fbody.len c2) := by
          intro w1 hb1
          rw [hw4] at hb1
          rw [hbx]
          have q0 := box_later hb1 0
          have q1 := box_later hb1 1
          have q2 := box_later hb1 2
          simp at q0 q1 q2
          exact ⟨q0, q1, q2⟩
        have hAB := hA.mono hBr
        rw [← hw4] at hA hAB
        have HX := Lib.hid hbox
        have K4 := Lib.hid (hb.trans (hA.mono hb.size))
        have N1 := Lib.hid (hA1.below hAB)
        have N2 := Lib.hid (hB1.below hAB)
        have HDR := Lib.hid hdr
        have HD := Lib.hid hd
        have HBr := Lib.hid (Nat.le_trans hBr hA.size)
        have HT := Lib.hid (show fname.length ≤ 9223372036854775807 by omega)
        clear hN hN' hA hAB hbox hb hd hx hdr hS ht etx hBr hA1 hB1
        have hfe : g = ⟨fname, fargs, fbody⟩ := by
          rw [hg]
          have h := (List.drop_eq_getElem_cons hlt).symm.trans HDR.out
          exact (List.cons.inj h).1
        subst hfe
        clear hg HDR HD
        obtain ⟨u, hu⟩ : ∃ u, u = upF fs i := ⟨_, rfl⟩
        rw [← hu] at hstep hle ⊢
        obtain ⟨r, hr⟩ : ∃ r, r = fnText ⟨fname, fargs, fbody⟩ := ⟨_, rfl⟩
        rw [← hr] at hstep hle
        have hadd : ∀ wx, (Op.stringOp .add (bs u) (bs r)).run Tryd.prog wx = .ok (.string (bs (u ++ r))) wx := add_any u r (by omega)
        have hbo : stmts true fbody = true := by
          unfold okf at hst
          simp only [Bool.and_eq_true] at hst
          exact hst.2
        have hbz : fbody.sz ≤ 1048576 := by unfold fsz at hfz; simp only at hfz; omega
        have hBL : BlockOk false fbody := block_ok fbody hbz hbo
        have hr' : r = [102, 110, 32] ++ fname ++ [40] ++ sepx [44, 32] fargs ++ [41, 32, 123, 10] ++ fbody.lines 1 ++ [125, 10] := hr
        have hta : tot fargs ≤ 2097152 := by
          have := tot_sum fargs
          unfold fsz at hfz; simp only at hfz; omega
        have hna : fname.length ≤ 1048576 := by unfold fsz at hfz; simp only at hfz; omega
        have hrl := congrArg List.length hr'
        simp only [List.length_append, List.length_cons, List.length_nil] at hrl
        have b1 : ∀ wx, (Op.stringOp .add (bs u) ⟨#[102, 110, 32]⟩).run Tryd.prog wx = .ok (.string (bs (u ++ [102, 110, 32]))) wx := add_any u [102, 110, 32] (by simp; omega)
        have b2 : ∀ wx, (Op.stringOp .add (bs (u ++ [102, 110, 32])) (bs fname)).run Tryd.prog wx = .ok (.string (bs (u ++ [102, 110, 32] ++ fname))) wx := add_any (u ++ [102, 110, 32]) fname (by simp; omega)
        have b3 : ∀ wx, (Op.stringOp .add (bs (u ++ [102, 110, 32] ++ fname)) ⟨#[40]⟩).run Tryd.prog wx = .ok (.string (bs (u ++ [102, 110, 32] ++ fname ++ [40]))) wx := add_any (u ++ [102, 110, 32] ++ fname) [40] (by simp; omega)
        obtain ⟨s1, hs1⟩ : ∃ s1, s1 = u ++ [102, 110, 32] := ⟨_, rfl⟩
        rw [← hs1] at b1 b2 b3
        obtain ⟨s2, hs2⟩ : ∃ s2, s2 = s1 ++ fname := ⟨_, rfl⟩
        rw [← hs2] at b2 b3
        obtain ⟨c, hc⟩ : ∃ c, c = s2 ++ [40] := ⟨_, rfl⟩
        rw [← hc] at b3
        have HL := Lib.hid (And.intro hBL (And.intro hbz (And.intro hrl (And.intro hr' (And.intro hle (And.intro hpl (And.intro hta (show c = u ++ [102, 110, 32] ++ fname ++ [40] by rw [hc, hs2, hs1]))))))))
        have HST := Lib.hid (And.intro hstep hlt)
        clear hBL hbz hrl hr' hr hbo hst hfz hstep hle hpl hu hlt hs1 hs2 hc hta hna hadd
        go_upto_region 8 with fail
        rw [← hbx, ← hw4]
        clear hbx hw4 d0 d1 d2 r0 r1
        obtain ⟨q0, q1, q2⟩ := HX.out w4 (Below.refl _ _)
        go_wp2_with fail
        go_loopg [4, 7] fargs.length (fun gk v4 v7 wr => ArgAt w4 fargs c gk v4 v7 wr)
        case atStart => exact ⟨0, Nat.zero_le _, rfl, by show _ = Value.string (bs (c ++ [])); rw [List.append_nil], rfl, Below.refl _ _⟩
        case round =>
          obtain ⟨j, hj, rfl, rfl, rfl, hb⟩ := hrel
          have j0 : (0 : Int) ≤ (j : Int) := by omega
          clear q0 q1 q2
          obtain ⟨q0, q1, q2⟩ := HX.out _ hb
          have KB := Lib.hid hb
          obtain ⟨g0, hg0⟩ : ∃ g0, g0 = sevT fargs j := ⟨_, rfl⟩
          have hgl := sevT_len fargs j
          have hcl := congrArg List.length HL.out.2.2.2.2.2.2.2
          simp only [List.length_append, List.length_cons, List.length_nil] at hcl
          have hpl := HL.out.2.2.2.2.2.1
          have hrl := HL.out.2.2.1
          have hle := HL.out.2.2.2.2.1
          have hta := HL.out.2.2.2.2.2.2.1
          by_cases hjl : j < fargs.length
          · have j1 : (j : Int) < (fargs.length : Int) := by omega
            have hstp := sevT_step fargs j hjl
            have hzl := sevT_le fargs (j + 1)
            have hg2 := sevT_le fargs j
            obtain ⟨_, _, ev, _, _, _, _, h4⟩ := N1.out.below (hb.mono HBr.out)
            cases ev
            obtain ⟨ab, ao, rfl, _, hcell, _⟩ := h4 j hjl
            have etz : ∀ q : Tx, tx q = bs q := fun _ => rfl
            rw [etz] at hcell
            clear h4
            have hzm := tot_mem fargs[j] (List.getElem_mem hjl)
            generalize fargs[j] = zz at *
            have HJ := Lib.hid (And.intro hjl hstp)
            rw [hstp, List.length_append] at hzl
            rw [← hg0] at hzl hgl hg2 ⊢
            have hzz : 0 < j ∧ g0.length + 2 + zz.length ≤ (sepx [44, 32] fargs).length ∨ g0 = [] ∧ zz.length ≤ (sepx [44, 32] fargs).length := by
              by_cases h0 : 0 < j
              · rw [if_pos h0] at hzl
                simp only [List.length_append, List.length_cons, List.length_nil] at hzl
                exact .inl ⟨h0, by omega⟩
              · refine .inr ⟨by rw [hg0, show j = 0 by omega]; rfl, ?_⟩
                rw [if_neg h0] at hzl
                simpa using hzl
            have hz3 : g0.length + 2 + zz.length ≤ (sepx [44, 32] fargs).length + 2 := by
              rcases hzz with ⟨_, h⟩ | ⟨h, h'⟩
              · omega
              · rw [h]; simp only [List.length_nil]; omega
            clear hzz hzl hg2
            have c1 : ∀ wx, (Op.stringOp .add (bs (c ++ g0)) ⟨#[44, 32]⟩).run Tryd.prog wx = .ok (.string (bs (c ++ g0 ++ [44, 32]))) wx := add_any _ [44, 32] (by simp; omega)
            have c2 : ∀ wx, (Op.stringOp .add (bs (c ++ g0 ++ [44, 32])) (bs zz)).run Tryd.prog wx = .ok (.string (bs (c ++ g0 ++ [44, 32] ++ zz))) wx := add_any _ zz (by simp; omega)
            have c3 : ∀ wx, (Op.stringOp .add (bs (c ++ g0)) (bs zz)).run Tryd.prog wx = .ok (.string (bs (c ++ g0 ++ zz))) wx := add_any _ zz (by simp; omega)
            obtain ⟨n0, hn0⟩ : ∃ n0, n0 = c ++ g0 := ⟨_, rfl⟩
            rw [← hn0] at c1 c2 c3 ⊢
            obtain ⟨n1, hn1⟩ : ∃ n1, n1 = n0 ++ [44, 32] := ⟨_, rfl⟩
            rw [← hn1] at c1 c2
            have HN := Lib.hid (And.intro hn0 (And.intro hn1 hg0))
            clear hzm hz3 hn0 hn1 hg0 hstp hjl hj hgl hcl hpl hrl hle hta hb
            by_cases h0 : 0 < j
            · have i0 : (0 : Int) < (j : Int) := by omega
              go_wp2_with fail
              go_roundg (fargs.length - (j + 1))
              case measure => have := HJ.out.1; omega
              case rel => exact ⟨j + 1, HJ.out.1, rfl, by rw [HJ.out.2, if_pos h0, HN.out.2.1, HN.out.1, ← HN.out.2.2]; simp only [List.append_assoc], by go_num, KB.out⟩
            · have i0 : (j : Int) ≤ 0 := by omega
              have hg : g0 = [] := by rw [HN.out.2.2, show j = 0 by omega]; rfl
              go_wp2_with fail
              go_roundg (fargs.length - (j + 1))
              case measure => have := HJ.out.1; omega
              case rel => exact ⟨j + 1, HJ.out.1, rfl, by rw [HJ.out.2, if_neg h0, HN.out.1, hg]; simp only [List.append_nil, List.nil_append], by go_num, KB.out⟩
          · have j1 : (fargs.length : Int) ≤ (j : Int) := by omega
            have hs : sevT fargs j = sepx [44, 32] fargs := by
              rw [show j = fargs.length by omega]; unfold sevT; rw [List.take_length]
            obtain ⟨m, hm⟩ : ∃ m, m = c ++ sevT fargs j := ⟨_, rfl⟩
            rw [← hm]
            have hml : m.length + 4 + (fbody.lines 1).length + 2 ≤ 140737488355328 := by
              rw [hm, List.length_append]
              rw [hs] at hgl ⊢
              omega
            have b1 : ∀ wx, (Op.stringOp .add (bs m) ⟨#[41, 32, 123, 10]⟩).run Tryd.prog wx = .ok (.string (bs (m ++ [41, 32, 123, 10]))) wx := add_any m [41, 32, 123, 10] (by simp; omega)
            have b2 : ∀ wx, (Op.stringOp .add (bs (m ++ [41, 32, 123, 10])) (bs (fbody.lines 1))).run Tryd.prog wx = .ok (.string (bs (m ++ [41, 32, 123, 10] ++ fbody.lines 1))) wx := add_any _ _ (by simp; omega)
            have b3 : ∀ wx, (Op.stringOp .add (bs (m ++ [41, 32, 123, 10] ++ fbody.lines 1)) ⟨#[125, 10]⟩).run Tryd.prog wx = .ok (.string (bs (m ++ [41, 32, 123, 10] ++ fbody.lines 1 ++ [125, 10]))) wx := add_any _ [125, 10] (by simp; omega)
            have hend : m ++ [41, 32, 123, 10] ++ fbody.lines 1 ++ [125, 10] = u ++ r := by rw [hm, hs, HL.out.2.2.2.1, HL.out.2.2.2.2.2.2.2]; simp only [List.append_assoc]
            rw [hend] at b3
            obtain ⟨m1, hm1⟩ : ∃ m1, m1 = m ++ [41, 32, 123, 10] := ⟨_, rfl⟩
            rw [← hm1] at b1 b2 b3
            obtain ⟨m2, hm2⟩ : ∃ m2, m2 = m1 ++ fbody.lines 1 := ⟨_, rfl⟩
            rw [← hm2] at b2 b3
            obtain ⟨LB, hLB⟩ : ∃ LB, LB = fbody.lines 1 := ⟨_, rfl⟩
            rw [← hLB] at b2
            have HLB := Lib.hid hLB
            clear hm hm1 hm2 hLB hend hml hs hjl hj hgl hcl hpl hrl hle hta hg0 hb
            go_wp2_with fail
            refine (HL.out.1 _ B _ 1 [9] rfl (Nat.le_trans HBr.out KB.out.size) (N2.out.below (KB.out.mono HBr.out)) (by have := HL.out.2.1; omega)).mono ?_
            rintro e w6 ⟨rfl, hb6⟩
            rw [← HLB.out]
            have K6 := Lib.hid (K4.out.trans ((KB.out.trans (hb6.mono KB.out.size)).mono K4.out.size))
            clear hb6 q0 q1 q2
            go_wp2_with fail
            go_roundg (fs.length - (i + 1))
            case measure => have := HST.out.2; omega
            case rel => exact ⟨i + 1, HST.out.2, rfl, by rw [HST.out.1], by go_num, K6.out⟩
      · obtain rfl : i = fs.length := by omega
        have HU := Lib.hid (upF_all fs)
        have K := Lib.hid hb
        obtain ⟨q0, q1⟩ := HXP.out wr hb
        clear hlt hb hi hd
        have HPT := Lib.hid (show progText p = upF fs fs.length ++ p.body.lines 0 by rw [HU.out, ← HF.out]; rfl)
        generalize upF fs fs.length = u at *
        have hpl := HP.out.1
        rw [HPT.out, List.length_append] at hpl
        obtain ⟨r, hr⟩ : ∃ r, r = p.body.lines 0 := ⟨_, rfl⟩
        have HR := Lib.hid hr
        rw [← hr] at hpl
        have hadd : ∀ wx, (Op.stringOp .add (bs u) (bs r)).run Tryd.prog wx = .ok (.string (bs (u ++ r))) wx := add_any u r (by omega)
        have hsz : (bs (u ++ r)).size = (u ++ r).length := bs_size _
        clear hr
        go_wp2_with fail
        refine (block_ok p.body HP.out.2.2.2 HOK.out.2.1 wr B _ 0 [] rfl (Nat.le_trans HBB.out K.out.size) (H2.out.below (K.out.mono HBB.out)) (by have := HP.out.2.2.2; omega)).mono ?_
        rintro e w7 ⟨rfl, hb7⟩
        rw [← HR.out]
        have K7 := Lib.hid (Y0.out.trans ((K.out.trans (hb7.mono K.out.size)).mono Y0.out.size))
        clear hb7 q0 q1
        have HT := Lib.hid (show progText p = u ++ r by rw [HPT.out, HR.out])
        by_cases hl : 65536 < (u ++ r).length
        · have hl' : (65536 : Int) < ((bs (u ++ r)).size : Int) := by rw [hsz]; omega
          have HRR := Lib.hid (show showP wrapI p = ([], 3) by unfold showP; rw [HCC.out, HT.out, if_pos hl]; rfl)
          clear hsz hl
          go_wp2_with fail
          go_ret2
          exact ⟨by rw [HRR.out]; rfl, K7.out⟩
        · have hl' : ((bs (u ++ r)).size : Int) ≤ 65536 := by rw [hsz]; omega
          have HRR := Lib.hid (show showP wrapI p = (u ++ r, 0) by unfold showP; rw [HCC.out, HT.out, if_neg hl]; rfl)
          clear hsz hl
          go_wp2_with fail
          go_ret2
          exact ⟨by rw [HRR.out]; rfl, K7.out⟩
end Go.Proofs.YtobpnjnfpgcpaaaDoor
