/- The statement ScopesUsed: its walk. -/
import Derived.Test.YtmkhfonafcikdaaGreatDoorScAliveU
import Derived.Test.YtmkhfonafcikdaaGreatDoorScUsedU
import Derived.Test.YtmkhfonafcikdaaGreatDoorScTakeU
import Derived.Test.YtmkhfonafcikdaaGreatDoorTrB3
namespace Go.Nd
theorem ownN_len (args : List Tx) (b : Ns) : (ownN args b).length ≤ args.length + b.flat.length := by
  have h1 : ∀ (ss l : List Tx), (addAll l ss).length ≤ l.length + ss.length := by
    intro ss
    induction ss with
    | nil => intro l; exact Nat.le_refl _
    | cons s ss ih =>
      intro l
      have h1 := ih (addN l s)
      have h2 : (addN l s).length ≤ l.length + 1 := by
        unfold addN; split
        · omega
        · simp
      show (addAll (addN l s) ss).length ≤ _
      simp only [List.length_cons]; omega
  have q1 := h1 args []
  have q2 := h1 (lets b) (addAll [] args)
  have q3 : (lets b).length ≤ b.flat.length := by
    unfold lets
    rw [List.length_map]
    exact List.length_filter_le _ _
  rw [List.length_nil] at q1
  unfold ownN
  omega
theorem nodup_take {l : List Tx} (h : l.Nodup) {i : Nat} (hi : i < l.length) : (l.take i).contains l[i] = false := by
  have h1 := (dup_iff l).2 h
  cases hc : (l.take i).contains l[i] with
  | false => rfl
  | true =>
    have : dup (l.take (i + 1)) = true := by rw [List.take_succ_eq_append_getElem hi, dup_snoc, hc, Bool.or_true]
    rw [dup_take this] at h1
    cases h1
end Go.Nd
namespace Go.Proofs.YtmkhfonafcikdaaGreatDoor
open Go.RowKit Go.My Go.Nd
/-- What a program whose names all stand for something has. -/
theorem locals_len {p : Pr} (hS : SmallP p) (f : Int) : (locals wrapI p f).length ≤ 2000000 := by
  unfold locals
  split
  · exact Nat.zero_le _
  · split
    · have h1 := ownN_len [] p.body
      have h2 := hS.body
      rw [List.length_nil] at h1
      omega
    · split
      · rename_i g hg
        have h1 := ownN_len g.args g.body
        have h2 := hS.each g (List.mem_of_getElem? hg)
        omega
      · exact Nat.zero_le _
theorem locals_nodup (p : Pr) (f : Int) : (locals wrapI p f).Nodup := by
  unfold locals
  split
  · simp
  · split
    · exact ownN_nodup _ _
    · split
      · exact ownN_nodup _ _
      · simp
theorem used_body {p : Pr} (h : scheck wrapI p = 0) : usedAll (locals wrapI p (-1)) p.body = true := by
  obtain ⟨hc, _, hf⟩ := scheck_zero h
  rw [locals_body hc (by omega)]
  unfold finesOk at hf
  simp only [Bool.and_eq_true] at hf
  exact used_of_fine hf.2
theorem used_func {p : Pr} (h : scheck wrapI p = 0) {i : Nat} (hi : i < p.funcs.length) : usedAll (locals wrapI p (i : Int)) (p.funcs[i]).body = true ∧ (p.funcs[i]).args.length ≤ (locals wrapI p (i : Int)).length ∧ (locals wrapI p (i : Int)).take (p.funcs[i]).args.length = (p.funcs[i]).args := by
  obtain ⟨hc, hh, hf⟩ := scheck_zero h
  rw [locals_at hc hi]
  unfold finesOk at hf
  simp only [Bool.and_eq_true, List.all_eq_true] at hf
  have hm := List.getElem_mem hi
  refine ⟨used_of_fine (hf.1 _ hm), ?_⟩
  unfold headsOk at hh
  simp only [Bool.and_eq_true, List.all_eq_true] at hh
  have hd := hh.1 _ hm
  unfold headOk at hd
  simp only [Bool.and_eq_true, Bool.not_eq_true'] at hd
  obtain ⟨m, e⟩ := ownN_args (p.funcs[i]).body hd.2
  rw [e]
  exact ⟨by simp, by simp⟩

theorem own_cut {W : World} {g : Tags} {t n c : Nat} {a : Option Addr} {e : TypeId} {xs : List Value} (hO : Owns W g t e 1 (.slice a n c) n xs) {h : Nat} (hh : h ≤ n) :
    ∀ wx, (Instr.slice 32 (.slice a n c) none (some (.int .i64 (h : Int))) none).run Tryz.prog wx = .ok (.slice a h c) wx := by
  obtain ⟨k, ⟨_, (⟨e1, e2, _⟩ | ⟨b, off, cap, cur, e1, _, _, h5, _⟩)⟩, _⟩ := hO
  · cases e1
    obtain rfl : h = 0 := by omega
    intro wx
    have he : Tryz.prog.elem 32 = 9 := by kernel_rfl
    rw [run_slice_h wx 32 _ _ _ (by rw [he]; exact Tryz.underlying32) .i64 _ (by omega) (by omega), he]
    simp [sliced]
  · cases e1
    exact slice_h Tryz.underlying32 (by kernel_rfl) b off n c h (h : Int) rfl (by omega)

def UlAt (wb : World) (n : Nat) (gk : Nat) (v4 : Value) (wr : World) : Prop :=
  ∃ k : Nat, k ≤ n + 1 ∧ gk = n + 1 - k ∧ v4 = .int .i64 ((k : Int) - 1) ∧ Below wb.heap.size wb wr
def UiAt (w5 : World) (n : Nat) (gk : Nat) (v6 : Value) (wr : World) : Prop :=
  ∃ i : Nat, i ≤ n ∧ gk = n - i ∧ v6 = .int .i64 (i : Int) ∧ Below w5.heap.size w5 wr

set_option maxRecDepth 100000 in
set_option maxHeartbeats 16000000 in
theorem used_any (w : World) (v1 v2 : Value) (p : Pr) (h1 : FuncsIn w (fun b => b < w.heap.size) false v1 p.funcs) (h2 : Nodes w (fun b => b < w.heap.size) false v2 p.body) (hps : psz p ≤ 1048576) :
    Calls Tryz.prog 5 #[.agg #[v1, v2]] w fun e w' => e = .returned (.bool true) ∧ Below w.heap.size w w' := by
  obtain ⟨a1, c1, rfl⟩ := h1.form
  obtain ⟨a2, c2, rfl⟩ := h2.form
  have hS := small_of_psz hps
  have hA := Below.alloc (Below.refl w.heap.size w) (Nat.le_refl _) (.cells #[.slice a1 p.funcs.length c1, .slice a2 p.body.len c2] 25)
  have hrow := heap_alloc_new w (.cells #[.slice a1 p.funcs.length c1, .slice a2 p.body.len c2] 25)
  obtain ⟨wb, hwb⟩ : ∃ wb, wb = w.alloc (.cells #[.slice a1 p.funcs.length c1, .slice a2 p.body.len c2] 25) := ⟨_, rfl⟩
  rw [← hwb] at hA hrow
  have hlt : w.heap.size < wb.heap.size := by rw [hwb]; simp
  have UP := Lib.hid (fun (W : World) (h : Below wb.heap.size wb W) => show W.cell? ⟨w.heap.size, 0, none⟩ = some (.slice a1 p.funcs.length c1) ∧ W.cell? ⟨w.heap.size, 1, none⟩ = some (.slice a2 p.body.len c2) ∧ w.heap.size ≤ W.heap.size ∧ FuncsIn W (· < w.heap.size) false (.slice a1 p.funcs.length c1) p.funcs ∧ Nodes W (· < w.heap.size) false (.slice a2 p.body.len c2) p.body ∧ Below w.heap.size w W from by
    have hb := hA.trans (h.mono hA.size)
    exact ⟨(World.cell?_of_block (h.block _ hlt)).trans (cell_of_row wb _ 0 _ _ _ hrow), (World.cell?_of_block (h.block _ hlt)).trans (cell_of_row wb _ 1 _ _ _ hrow), hb.size, h1.below hb, h2.below hb, hb⟩)
  have HS := Lib.hid hS
  have hr := hS.funcs
  have l0 : (0 : Int) ≤ (p.funcs.length : Int) := by omega
  have l1 : (p.funcs.length : Int) ≤ 1048576 := by omega
  clear h1 h2 hS hA hrow hlt hps hr
  go_enter Tryz.func5, Tryz.ntmps5
  go_upto_region 1 with fail
  rw [← hwb]
  clear hwb
  go_wp2_with fail
  refine (alive11_t (w := wb)).mono ?_
  rintro e w1 ⟨rfl, hb1⟩
  have B1 := Lib.hid hb1
  obtain ⟨p0, p1, _⟩ := UP.out w1 hb1
  clear hb1
  go_wp2_with fail
  refine (progSize_t (UP.out w1 B1.out).2.2.1 (UP.out w1 B1.out).2.2.2.1 (UP.out w1 B1.out).2.2.2.2.1).mono ?_
  rintro e w2 ⟨m, rfl, hb2⟩
  have B2 := Lib.hid (B1.out.trans (hb2.mono B1.out.size))
  clear hb2 p0 p1
  obtain ⟨p0, p1, _⟩ := UP.out w2 B2.out
  by_cases hm : m ≤ 2000
  · go_wp2_with fail
    refine (scheck_t (UP.out w2 B2.out).2.2.1 (UP.out w2 B2.out).2.2.2.1 (UP.out w2 B2.out).2.2.2.2.1 HS.out).mono ?_
    rintro e w3 ⟨rfl, hb3⟩
    have B3 := Lib.hid (B2.out.trans (hb3.mono B2.out.size))
    clear hb3 p0 p1
    obtain ⟨p0, p1, _⟩ := UP.out w3 B3.out
    obtain ⟨E, hE⟩ : ∃ E, E = scheck wrapI p := ⟨_, rfl⟩
    rw [← hE]
    by_cases h0 : E = 0
    · have HE := Lib.hid (hE.symm.trans h0)
      subst h0
      clear hE hm
      go_wp2_with fail
      clear p0 p1
      go_loopg [4] (p.funcs.length + 1) (fun gk v4 wr => UlAt wb p.funcs.length gk v4 wr)
      case atStart => exact ⟨0, Nat.zero_le _, rfl, rfl, B3.out⟩
      case round =>
        obtain ⟨k, hk, rfl, rfl, hb⟩ := hrel
        have k0 : (0 : Int) ≤ (k : Int) := by omega
        have K := Lib.hid hb
        obtain ⟨p0, p1, _⟩ := UP.out wr hb
        by_cases hlt : k ≤ p.funcs.length
        · have HLT := Lib.hid hlt
          cases k with
          | zero =>
            have k1 : (-1 : Int) < (p.funcs.length : Int) := by omega
            rw [show (((0 : Nat)) : Int) - 1 = -1 from rfl]
            clear hb hlt hk k0
            go_wp2_with fail
            refine slocals_t (UP.out wr K.out).2.2.1 (UP.out wr K.out).2.2.2.1 (UP.out wr K.out).2.2.2.2.1 HS.out (-1) fun v5 w5 g5 S5 O5 L5 => ?_
            obtain ⟨L, hL⟩ : ∃ L, L = locals wrapI p (-1) := ⟨_, rfl⟩
            have hlen := locals_len HS.out (-1)
            have hnd := locals_nodup p (-1)
            rw [← hL] at O5 L5 hlen hnd
            obtain ⟨a5, c5, rfl⟩ := O5.form
            have T5 := Lib.hid ((texts_of_owns O5 L5 (by omega)).mono (T := (· < w5.heap.size)) fun b hb _ => hb)
            have OC := Lib.hid (fun (h : Nat) (hh : h ≤ L.length) => own_cut O5 hh)
            have B5 := Lib.hid (K.out.trans (S5.below.mono K.out.size))
            have HL := Lib.hid (And.intro hL hnd)
            have n0 : (0 : Int) ≤ (L.length : Int) := by omega
            have n1 : (L.length : Int) ≤ 2000000 := by omega
            clear S5 O5 L5 hL hlen hnd p0 p1
            go_wp2_with fail
            go_loopg [6] L.length (fun gk v6 wr => UiAt w5 L.length gk v6 wr)
            case atStart => exact ⟨0, Nat.zero_le _, rfl, rfl, Below.refl _ _⟩
            case round =>
              obtain ⟨i, hi, rfl, rfl, hb⟩ := hrel
              have i0 : (0 : Int) ≤ (i : Int) := by omega
              have KI := Lib.hid hb
              by_cases hlt : i < L.length
              · have i1 : (i : Int) < (L.length : Int) := by omega
                have hT := T5.out.below hb
                obtain ⟨_, _, ea, hcl, _, _, _, hcell⟩ := id hT
                obtain ⟨b3, o3, eb, hS3, hc3, hl3⟩ := hcell i hlt
                cases ea
                cases eb
                have hsl := OC.out i hi
                have HTK := Lib.hid (take_texts (hT.below ((Below.refl w5.heap.size wr).drew)) hi)
                have HND := Lib.hid (nodup_take HL.out.2 hlt)
                obtain ⟨s, hs⟩ : ∃ s, s = L[i] := ⟨_, rfl⟩
                rw [← hs] at hc3 HND
                have HLT2 := Lib.hid hlt
                clear hs hcell hS3 hT hcl hl3 hlt hi hb
                go_upto_region 13 with fail
                go_still_tail 7, (by kernel_rfl)
                change wpList _ _ _ _ _ wr.drew
                have HD := Lib.hid (KI.out.drew)
                clear hc3 hsl
                generalize wr.drew = w12 at HD HTK ⊢
                go_wp2_with fail
                refine (lhas_t HTK.out s).mono ?_
                rintro e w13 ⟨rfl, hb13⟩
                have B13 := Lib.hid (HD.out.trans (hb13.mono HD.out.size))
                rw [HND.out]
                clear hb13
                go_wp2_with fail
                go_roundg (L.length - (i + 1))
                case measure => have := HLT2.out; omega
                case rel => exact ⟨i + 1, HLT2.out, rfl, by go_num, B13.out⟩
              · obtain rfl : i = L.length := by omega
                clear hlt hi hb
                have B6 := Lib.hid (B5.out.trans (KI.out.mono B5.out.size))
                obtain ⟨p0, p1, _⟩ := UP.out wr B6.out
                have T6 := Lib.hid ((T5.out.below KI.out).mono (T := (· < wr.heap.size)) fun b hb _ => hb)
                have HU := Lib.hid (show usedAll L p.body = true from by rw [HL.out.1]; exact used_body HE.out)
                go_wp2_with fail
                refine (used_t L p.body wr wr.heap.size false _ _ (Nat.le_refl _) T6.out ((UP.out wr B6.out).2.2.2.2.1.mono fun b hb _ => hb)).mono ?_
                rintro e w7 ⟨rfl, hb7⟩
                have B7 := Lib.hid (B6.out.trans (hb7.mono B6.out.size))
                rw [HU.out]
                clear hb7 p0 p1
                go_wp2_with fail
                go_roundg (p.funcs.length + 1 - (0 + 1))
                case measure => omega
                case rel => exact ⟨0 + 1, by omega, rfl, by simp, B7.out⟩
          | succ f =>
            have HFL := Lib.hid (show f < p.funcs.length from hlt)
            have k1 : (f : Int) < (p.funcs.length : Int) := by omega
            have k2 : (0 : Int) ≤ (f : Int) := by omega
            rw [show (((f + 1 : Nat)) : Int) - 1 = (f : Int) from by omega]
            clear hb hlt hk k0
            go_wp2_with fail
            refine slocals_t (UP.out wr K.out).2.2.1 (UP.out wr K.out).2.2.2.1 (UP.out wr K.out).2.2.2.2.1 HS.out (f : Int) fun v5 w5 g5 S5 O5 L5 => ?_
            obtain ⟨L, hL⟩ : ∃ L, L = locals wrapI p (f : Int) := ⟨_, rfl⟩
            have hlen := locals_len HS.out (f : Int)
            have hnd := locals_nodup p (f : Int)
            rw [← hL] at O5 L5 hlen hnd
            obtain ⟨a5, c5, rfl⟩ := O5.form
            have T5 := Lib.hid ((texts_of_owns O5 L5 (by omega)).mono (T := (· < w5.heap.size)) fun b hb _ => hb)
            have OC := Lib.hid (fun (h : Nat) (hh : h ≤ L.length) => own_cut O5 hh)
            have B5 := Lib.hid (K.out.trans (S5.below.mono K.out.size))
            have HL := Lib.hid (And.intro hL hnd)
            have n0 : (0 : Int) ≤ (L.length : Int) := by omega
            have n1 : (L.length : Int) ≤ 2000000 := by omega
            clear S5 O5 L5 hL hlen hnd p0 p1
            go_wp2_with fail
            go_loopg [6] L.length (fun gk v6 wr => UiAt w5 L.length gk v6 wr)
            case atStart => exact ⟨0, Nat.zero_le _, rfl, rfl, Below.refl _ _⟩
            case round =>
              obtain ⟨i, hi, rfl, rfl, hb⟩ := hrel
              have i0 : (0 : Int) ≤ (i : Int) := by omega
              have KI := Lib.hid hb
              by_cases hlt : i < L.length
              · have i1 : (i : Int) < (L.length : Int) := by omega
                have hT := T5.out.below hb
                obtain ⟨_, _, ea, hcl, _, _, _, hcell⟩ := id hT
                obtain ⟨b3, o3, eb, hS3, hc3, hl3⟩ := hcell i hlt
                cases ea
                cases eb
                have hsl := OC.out i hi
                have HTK := Lib.hid (take_texts (hT.below ((Below.refl w5.heap.size wr).drew)) hi)
                have HND := Lib.hid (nodup_take HL.out.2 hlt)
                obtain ⟨s, hs⟩ : ∃ s, s = L[i] := ⟨_, rfl⟩
                rw [← hs] at hc3 HND
                have HLT2 := Lib.hid hlt
                clear hs hcell hS3 hT hcl hl3 hlt hi hb
                go_upto_region 13 with fail
                go_still_tail 7, (by kernel_rfl)
                change wpList _ _ _ _ _ wr.drew
                have HD := Lib.hid (KI.out.drew)
                clear hc3 hsl
                generalize wr.drew = w12 at HD HTK ⊢
                go_wp2_with fail
                refine (lhas_t HTK.out s).mono ?_
                rintro e w13 ⟨rfl, hb13⟩
                have B13 := Lib.hid (HD.out.trans (hb13.mono HD.out.size))
                rw [HND.out]
                clear hb13
                go_wp2_with fail
                go_roundg (L.length - (i + 1))
                case measure => have := HLT2.out; omega
                case rel => exact ⟨i + 1, HLT2.out, rfl, by go_num, B13.out⟩
              · obtain rfl : i = L.length := by omega
                clear hlt hi hb
                have B6 := Lib.hid (B5.out.trans (KI.out.mono B5.out.size))
                obtain ⟨p0, p1, _⟩ := UP.out wr B6.out
                have T6 := Lib.hid ((T5.out.below KI.out).mono (T := (· < wr.heap.size)) fun b hb _ => hb)
                obtain ⟨_, _, e1, _, _, _, _, hcc⟩ := (UP.out wr B6.out).2.2.2.1
                obtain ⟨b, off, v1, v2, e2, hSb, hN⟩ := hcc f HFL.out
                cases e1
                cases e2
                obtain ⟨a3, c3, r1⟩ := hN.args.form
                obtain ⟨a4, c4, r2⟩ := hN.body.form
                subst r1
                subst r2
                have d1 := hN.d1
                have d2 := hN.d2
                have hU := used_func HE.out HFL.out
                rw [← HL.out.1] at hU
                have HN := Lib.hid (And.intro hN.args hN.body)
                have hsm := (HS.out.each _ (List.getElem_mem HFL.out)).1
                obtain ⟨fn, hfn⟩ : ∃ fn, fn = p.funcs[f]'HFL.out := ⟨_, rfl⟩
                rw [← hfn] at d1 d2 hU HN hsm
                have HU := Lib.hid hU
                have u1 : (fn.args.length : Int) ≤ (L.length : Int) := by have := hU.2.1; omega
                have u0 : (0 : Int) ≤ (fn.args.length : Int) := by omega
                have udn : decide (L.length < fn.args.length) = false := decide_eq_false (by have := hU.2.1; omega)
                have udi : decide ((L.length : Int) < (fn.args.length : Int)) = false := decide_eq_false (by omega)
                have hsl := OC.out fn.args.length hU.2.1
                have HTK := Lib.hid (take_texts T6.out hU.2.1)
                clear hfn hN hSb hcc hU hsm
                have HEQ := Lib.hid (show (L.take fn.args.length == fn.args) = true from by rw [HU.out.2.2]; exact beq_self_eq_true _)
                go_upto_region 18 with fail
                go_quiet (refine (sameTexts_q (HTK.out.below (below_q (Below.refl _ wr) _)) (HN.out.1.below (below_q (Below.refl _ wr) _))).mono (fun _ _ ⟨h1, q, h2⟩ => ⟨h1.trans (by rw [HEQ.out]), _, h2.trans (World.drewN_drewN ..)⟩))
                have B7 := Lib.hid (below_q B6.out nq)
                have T7 := Lib.hid (T6.out.below (below_q (Below.refl _ wr) nq))
                have N7 := Lib.hid ((HN.out.2.below (below_q (Below.refl w.heap.size wr) nq)).mono (T := (· < wr.heap.size)) fun b hb h => Nat.lt_of_lt_of_le h (UP.out wr B6.out).2.2.1)
                have Z7 := Lib.hid (show wr.heap.size ≤ (wr.drewN nq).heap.size from (below_drewN' wr nq).size)
                clear d1 d2 p0 p1 hsl udn udi
                generalize wr.drewN nq = w6 at *
                go_wp2_with fail
                refine (used_t L fn.body w6 wr.heap.size false _ _ Z7.out T7.out N7.out).mono ?_
                rintro e w7 ⟨rfl, hb7⟩
                have B8 := Lib.hid (B7.out.trans (hb7.mono B7.out.size))
                rw [HU.out.1]
                clear hb7
                go_wp2_with fail
                go_roundg (p.funcs.length + 1 - (f + 1 + 1))
                case measure => have := HFL.out; omega
                case rel => exact ⟨f + 1 + 1, by have := HFL.out; omega, rfl, by rw [show (((f + 1 + 1 : Nat)) : Int) - 1 = (f : Int) + 1 from by omega], B8.out⟩
        · obtain rfl : k = p.funcs.length + 1 := by omega
          rw [show (((p.funcs.length + 1 : Nat)) : Int) - 1 = (p.funcs.length : Int) from by omega]
          have hck := (scheck_zero HE.out).1
          have HCK := Lib.hid hck
          clear hlt hk hb hck k0
          go_wp2_with fail
          refine (check_t (UP.out wr K.out).2.2.1 (UP.out wr K.out).2.2.2.1 (UP.out wr K.out).2.2.2.2.1).mono ?_
          rintro e w5 ⟨rfl, hb5⟩
          rw [HCK.out]
          have B5 := Lib.hid (K.out.trans (hb5.mono K.out.size))
          clear hb5 p0 p1
          obtain ⟨p0, p1, _⟩ := UP.out w5 B5.out
          have hfar := locals_far (wrap := wrapI) (p := p) (f := (p.funcs.length : Int)) (Int.le_refl _)
          have HFAR := Lib.hid hfar
          clear hfar
          go_wp2_with fail
          refine slocals_t (UP.out w5 B5.out).2.2.1 (UP.out w5 B5.out).2.2.2.1 (UP.out w5 B5.out).2.2.2.2.1 HS.out (p.funcs.length : Int) fun v6 w6 g6 S6 O6 L6 => ?_
          rw [HFAR.out] at O6
          obtain ⟨a6, c6, rfl⟩ := O6.form
          have B6 := Lib.hid (B5.out.trans (S6.below.mono B5.out.size))
          clear S6 O6 L6 p0 p1
          go_wp2_with fail
          go_ret
          exact ⟨by simp, (UP.out w6 B6.out).2.2.2.2.2⟩
    · rcases scheck_other (wrap := wrapI) (p := p) (by rw [← hE]; exact h0) with ⟨h1, h2⟩ | ⟨h1, h2⟩
      · obtain rfl : E = 1 := hE.trans h1
        have HCK := Lib.hid h2
        clear h0 hE h1 h2 hm
        go_wp2_with fail
        refine (check_t (UP.out w3 B3.out).2.2.1 (UP.out w3 B3.out).2.2.2.1 (UP.out w3 B3.out).2.2.2.2.1).mono ?_
        rintro e w4 ⟨rfl, hb4⟩
        rw [HCK.out]
        have B4 := Lib.hid (B3.out.trans (hb4.mono B3.out.size))
        clear hb4 p0 p1
        go_wp2_with fail
        go_ret
        exact ⟨by simp, (UP.out w4 B4.out).2.2.2.2.2⟩
      · obtain rfl : E = 7 := hE.trans h1
        have HCK := Lib.hid h2
        clear h0 hE h1 h2 hm
        go_wp2_with fail
        refine (check_t (UP.out w3 B3.out).2.2.1 (UP.out w3 B3.out).2.2.2.1 (UP.out w3 B3.out).2.2.2.2.1).mono ?_
        rintro e w4 ⟨rfl, hb4⟩
        rw [HCK.out]
        have B4 := Lib.hid (B3.out.trans (hb4.mono B3.out.size))
        clear hb4 p0 p1
        go_wp2_with fail
        go_ret
        exact ⟨by simp, (UP.out w4 B4.out).2.2.2.2.2⟩
  · have hm2 : (2000 : Int) < m := by omega
    clear hm
    go_wp2_with fail
    refine (alive11_t (w := w2)).mono ?_
    rintro e w3 ⟨rfl, hb3⟩
    have B3 := Lib.hid (B2.out.trans (hb3.mono B2.out.size))
    clear hb3 p0 p1
    go_wp2_with fail
    go_ret
    exact ⟨rfl, (UP.out w3 B3.out).2.2.2.2.2⟩
end Go.Proofs.YtmkhfonafcikdaaGreatDoor
