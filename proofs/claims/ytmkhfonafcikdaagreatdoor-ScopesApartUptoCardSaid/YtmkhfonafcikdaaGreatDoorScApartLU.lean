/- The statement ScopesApart: its walk. -/
import Derived.Test.YtmkhfonafcikdaaGreatDoorScUsedLU
import Derived.Test.YtmkhfonafcikdaaGreatDoorScElsU
import Derived.Test.YtmkhfonafcikdaaGreatDoorScApPlU
import Derived.Test.YtmkhfonafcikdaaGreatDoorScApStU
import Derived.Deep.RegionLaw
namespace Go.Proofs.YtmkhfonafcikdaaGreatDoor
open Go.RowKit Go.My Go.Nd

theorem bs_app11 (a b : Tx) : bs a ++ bs b = bs (a ++ b) := by
  apply ByteArray.ext
  simp [bs]
theorem add_any11 (a b : Tx) (h : a.length + b.length ≤ 140737488355328) : ∀ wx, (Op.stringOp .add (bs a) (tx b)).run Tryz.prog wx = .ok (.string (bs (a ++ b))) wx := fun wx => by
  show (Op.stringOp .add (bs a) (bs b)).run Tryz.prog wx = _
  rw [run_string_add_sum wx _ _ (by rw [bs_size, bs_size]; omega), bs_app11]
def ApAt (wb : World) (p : Pr) (gk : Nat) (v3 v4 : Value) (wr : World) : Prop :=
  ∃ k : Nat, k ≤ p.funcs.length + 1 ∧ gk = p.funcs.length + 1 - k ∧ v3 = .string (bs (upName p k)) ∧ v4 = .int .i64 ((k : Int) - 1) ∧ Below wb.heap.size wb wr
def AiAt (w5 : World) (n0 : Tx) (L : List Tx) (gk : Nat) (v3 v6 : Value) (wr : World) : Prop :=
  ∃ i : Nat, i ≤ L.length ∧ gk = L.length - i ∧ v3 = .string (bs (n0 ++ (L.take i).flatten)) ∧ v6 = .int .i64 (i : Int) ∧ Below w5.heap.size w5 wr
theorem flat_take_le (l : List Tx) (i : Nat) : (l.take i).flatten.length ≤ l.flatten.length := by
  have e : l.flatten = (l.take i).flatten ++ (l.drop i).flatten := by rw [← List.flatten_append, List.take_append_drop]
  rw [e, List.length_append]; omega

set_option maxRecDepth 100000 in
set_option maxHeartbeats 16000000 in
theorem apart_any (w : World) (v1 v2 : Value) (p : Pr) (h1 : FuncsIn w (fun b => b < w.heap.size) false v1 p.funcs) (h2 : Nodes w (fun b => b < w.heap.size) false v2 p.body) (hz1 : ∀ n c, v1 = .slice none n c → c = 0) (hz2 : ∀ n c, v2 = .slice none n c → c = 0) (hp2 : psz2 p ≤ 1048576) :
    Calls Tryz.prog 6 #[.agg #[v1, v2]] w fun e w' => e = .returned (.bool true) ∧ Below w.heap.size w w' := by
  obtain ⟨a1, c1, rfl⟩ := h1.form
  obtain ⟨a2, c2, rfl⟩ := h2.form
  have hps := (half_of_psz2 hp2).1
  have hS := small_of_psz hps
  have HB := Lib.hid (big_len hps)
  have HZ := Lib.hid (And.intro hz1 hz2)
  have HP2 := Lib.hid hp2
  have hA := Below.alloc (Below.refl w.heap.size w) (Nat.le_refl _) (.cells #[.slice a1 p.funcs.length c1, .slice a2 p.body.len c2] 25)
  have hrow := heap_alloc_new w (.cells #[.slice a1 p.funcs.length c1, .slice a2 p.body.len c2] 25)
  obtain ⟨wb, hwb⟩ : ∃ wb, wb = w.alloc (.cells #[.slice a1 p.funcs.length c1, .slice a2 p.body.len c2] 25) := ⟨_, rfl⟩
  rw [← hwb] at hA hrow
  have hlt : w.heap.size < wb.heap.size := by rw [hwb]; simp
  have UP := Lib.hid (fun (W : World) (h : Below wb.heap.size wb W) => show W.cell? ⟨w.heap.size, 0, none⟩ = some (.slice a1 p.funcs.length c1) ∧ W.cell? ⟨w.heap.size, 1, none⟩ = some (.slice a2 p.body.len c2) ∧ w.heap.size ≤ W.heap.size ∧ FuncsIn W (· < w.heap.size) false (.slice a1 p.funcs.length c1) p.funcs ∧ Nodes W (· < w.heap.size) false (.slice a2 p.body.len c2) p.body ∧ Below w.heap.size w W from by
    have hb := hA.trans (h.mono hA.size)
    exact ⟨(World.cell?_of_block (h.block _ hlt)).trans (cell_of_row wb _ 0 _ _ _ hrow), (World.cell?_of_block (h.block _ hlt)).trans (cell_of_row wb _ 1 _ _ _ hrow), hb.size, h1.below hb, h2.below hb, hb⟩)
  have HS := Lib.hid hS
  have hr := hS.funcs
  have l0 : (0 : Int) ≤ (p.funcs.length : Int) := by omega
  have l1 : (p.funcs.length : Int) ≤ 1048576 := by omega
  clear h1 h2 hS hA hrow hlt hps hr hz1 hz2 hp2
  go_enter Tryz.func6, Tryz.ntmps6
  go_upto_region 1 with fail
  rw [← hwb]
  clear hwb
  go_wp2_with fail
  refine (alive11_t (w := wb)).mono ?_
  rintro e w1 ⟨rfl, hb1⟩
  have B1 := Lib.hid hb1
  obtain ⟨p0, p1, _⟩ := UP.out w1 hb1
  clear hb1
  go_wp2_with fail
  refine (progSize_t (UP.out w1 B1.out).2.2.1 (UP.out w1 B1.out).2.2.2.1 (UP.out w1 B1.out).2.2.2.2.1).mono ?_
  rintro e w2 ⟨m, rfl, hb2⟩
  have B2 := Lib.hid (B1.out.trans (hb2.mono B1.out.size))
  clear hb2 p0 p1
  obtain ⟨p0, p1, _⟩ := UP.out w2 B2.out
  by_cases hm : m ≤ 1000
  · go_wp2_with fail
    refine (scheck_t (UP.out w2 B2.out).2.2.1 (UP.out w2 B2.out).2.2.2.1 (UP.out w2 B2.out).2.2.2.2.1 HS.out).mono ?_
    rintro e w3 ⟨rfl, hb3⟩
    have B3 := Lib.hid (B2.out.trans (hb3.mono B2.out.size))
    clear hb3 p0 p1
    obtain ⟨p0, p1, _⟩ := UP.out w3 B3.out
    obtain ⟨E, hE⟩ : ∃ E, E = scheck wrapI p := ⟨_, rfl⟩
    rw [← hE]
    by_cases h0 : E = 0
    · have HE := Lib.hid (hE.symm.trans h0)
      subst h0
      clear hE
      go_wp2_with fail
      clear p0 p1 hm
      go_loopg [3, 4] (p.funcs.length + 1) (fun gk v3 v4 wr => ApAt wb p gk v3 v4 wr)
      case atStart => exact ⟨0, Nat.zero_le _, rfl, rfl, rfl, B3.out⟩
      case round =>
        obtain ⟨k, hk, rfl, rfl, rfl, hb⟩ := hrel
        have k0 : (0 : Int) ≤ (k : Int) := by omega
        have K := Lib.hid hb
        obtain ⟨p0, p1, _⟩ := UP.out wr hb
        have HU := Lib.hid (upName_le p k)
        obtain ⟨U, hU⟩ : ∃ U, U = upName p k := ⟨_, rfl⟩
        rw [← hU] at HU
        rw [← hU]
        by_cases hlt : k ≤ p.funcs.length
        · have HLT := Lib.hid hlt
          cases k with
          | zero =>
            have HUK := Lib.hid hU
            have k1 : (-1 : Int) < (p.funcs.length : Int) := by omega
            rw [show (((0 : Nat)) : Int) - 1 = -1 from rfl]
            clear hb hlt hk k0 hU
            go_wp2_with fail
            refine slocals_t (UP.out wr K.out).2.2.1 (UP.out wr K.out).2.2.2.1 (UP.out wr K.out).2.2.2.2.1 HS.out (-1) fun v5 w5 g5 S5 O5 L5 => ?_
            have hLB : locals wrapI p (-1) = ownN [] p.body := locals_body (scheck_zero HE.out).1 (by omega)
            obtain ⟨L, hL⟩ : ∃ L, L = locals wrapI p (-1) := ⟨_, rfl⟩
            have hlen := locals_len HS.out (-1)
            have hbig : U.length + L.flatten.length ≤ 1048580 := by
              have e := upName_one p
              rw [← hLB, ← hL, ← HUK.out] at e
              have := upName_le p 1
              rw [e, List.length_append] at this
              have := HB.out
              omega
            rw [← hL] at O5 L5 hlen
            obtain ⟨a5, c5, rfl⟩ := O5.form
            have T5 := Lib.hid ((texts_of_owns O5 L5 (by omega)).mono (T := (· < w5.heap.size)) fun b hb _ => hb)
            have B5 := Lib.hid (K.out.trans (S5.below.mono K.out.size))
            have HL := Lib.hid (And.intro (hL.trans hLB) hbig)
            have n0 : (0 : Int) ≤ (L.length : Int) := by omega
            have n1 : (L.length : Int) ≤ 2000000 := by omega
            clear S5 O5 L5 hL hlen hLB hbig p0 p1
            go_wp2_with fail
            go_loopg [3, 6] L.length (fun gk v3 v6 wr => AiAt w5 U L gk v3 v6 wr)
            case atStart => exact ⟨0, Nat.zero_le _, rfl, by simp, rfl, Below.refl _ _⟩
            case round =>
              obtain ⟨i, hi, rfl, rfl, rfl, hb⟩ := hrel
              have i0 : (0 : Int) ≤ (i : Int) := by omega
              have KI := Lib.hid hb
              by_cases hlt : i < L.length
              · have i1 : (i : Int) < (L.length : Int) := by omega
                have hT := T5.out.below hb
                obtain ⟨_, _, ea, hcl, _, _, _, hcell⟩ := id hT
                obtain ⟨b3, o3, eb, hS3, hc3, hl3⟩ := hcell i hlt
                cases ea
                cases eb
                have HTF := Lib.hid (take_flat hlt)
                obtain ⟨s, hs⟩ : ∃ s, s = L[i] := ⟨_, rfl⟩
                rw [← hs] at hc3 HTF
                have hle : (U ++ (L.take i).flatten).length + s.length ≤ 140737488355328 := by
                  have h1 := flat_take_le L (i + 1)
                  have h2 := HL.out.2
                  rw [HTF.out, List.length_append] at h1
                  rw [List.length_append]; omega
                have hadd := add_any11 (U ++ (L.take i).flatten) s hle
                obtain ⟨X, hX⟩ : ∃ X, X = bs (U ++ (L.take i).flatten) := ⟨_, rfl⟩
                rw [← hX] at hadd
                rw [← hX]
                have HX := Lib.hid hX
                have HLT2 := Lib.hid hlt
                clear hs hcell hS3 hT hcl hl3 hlt hi hb hle hX
                go_wp2_with fail
                go_roundg (L.length - (i + 1))
                case measure => have := HLT2.out; omega
                case rel => exact ⟨i + 1, HLT2.out, rfl, by rw [HTF.out, ← List.append_assoc], by go_num, KI.out⟩
              · obtain rfl : i = L.length := by omega
                clear hlt hi hb
                have B6 := Lib.hid (B5.out.trans (KI.out.mono B5.out.size))
                rw [List.take_length]
                have HN := Lib.hid (show U ++ L.flatten = upName p (0 + 1) from by rw [HUK.out, HL.out.1]; exact (upName_one p).symm)
                rw [HN.out]
                go_wp2_with fail
                go_roundg (p.funcs.length + 1 - (0 + 1))
                case measure => omega
                case rel => exact ⟨0 + 1, by omega, rfl, rfl, by simp, B6.out⟩
          | succ f =>
            have HUK := Lib.hid hU
            have HFL := Lib.hid (show f < p.funcs.length from hlt)
            have k1 : (f : Int) < (p.funcs.length : Int) := by omega
            have k2 : (0 : Int) ≤ (f : Int) := by omega
            rw [show (((f + 1 : Nat)) : Int) - 1 = (f : Int) from by omega]
            clear hb hlt hk k0 hU
            go_wp2_with fail
            refine slocals_t (UP.out wr K.out).2.2.1 (UP.out wr K.out).2.2.2.1 (UP.out wr K.out).2.2.2.2.1 HS.out (f : Int) fun v5 w5 g5 S5 O5 L5 => ?_
            have hLB := locals_at (scheck_zero HE.out).1 HFL.out
            obtain ⟨L, hL⟩ : ∃ L, L = locals wrapI p (f : Int) := ⟨_, rfl⟩
            have hlen := locals_len HS.out (f : Int)
            have hup := upName_succ p f HFL.out
            rw [← hLB, ← hL, ← HUK.out] at hup
            have hbig : U.length + L.flatten.length + (p.funcs[f]'HFL.out).name.length ≤ 1048580 := by
              have := upName_le p (f + 1 + 1)
              rw [hup, List.length_append, List.length_append] at this
              have := HB.out
              omega
            rw [← hL] at O5 L5 hlen
            obtain ⟨a5, c5, rfl⟩ := O5.form
            have T5 := Lib.hid ((texts_of_owns O5 L5 (by omega)).mono (T := (· < w5.heap.size)) fun b hb _ => hb)
            have B5 := Lib.hid (K.out.trans (S5.below.mono K.out.size))
            have HL := Lib.hid (And.intro hup hbig)
            have n0 : (0 : Int) ≤ (L.length : Int) := by omega
            have n1 : (L.length : Int) ≤ 2000000 := by omega
            clear S5 O5 L5 hL hlen hLB hbig hup p0 p1
            go_wp2_with fail
            go_loopg [3, 6] L.length (fun gk v3 v6 wr => AiAt w5 U L gk v3 v6 wr)
            case atStart => exact ⟨0, Nat.zero_le _, rfl, by simp, rfl, Below.refl _ _⟩
            case round =>
              obtain ⟨i, hi, rfl, rfl, rfl, hb⟩ := hrel
              have i0 : (0 : Int) ≤ (i : Int) := by omega
              have KI := Lib.hid hb
              by_cases hlt : i < L.length
              · have i1 : (i : Int) < (L.length : Int) := by omega
                have hT := T5.out.below hb
                obtain ⟨_, _, ea, hcl, _, _, _, hcell⟩ := id hT
                obtain ⟨b3, o3, eb, hS3, hc3, hl3⟩ := hcell i hlt
                cases ea
                cases eb
                have HTF := Lib.hid (take_flat hlt)
                obtain ⟨s, hs⟩ : ∃ s, s = L[i] := ⟨_, rfl⟩
                rw [← hs] at hc3 HTF
                have hle : (U ++ (L.take i).flatten).length + s.length ≤ 140737488355328 := by
                  have h1 := flat_take_le L (i + 1)
                  have h2 := HL.out.2
                  rw [HTF.out, List.length_append] at h1
                  rw [List.length_append]; omega
                have hadd := add_any11 (U ++ (L.take i).flatten) s hle
                obtain ⟨X, hX⟩ : ∃ X, X = bs (U ++ (L.take i).flatten) := ⟨_, rfl⟩
                rw [← hX] at hadd
                rw [← hX]
                have HX := Lib.hid hX
                have HLT2 := Lib.hid hlt
                clear hs hcell hS3 hT hcl hl3 hlt hi hb hle hX
                go_wp2_with fail
                go_roundg (L.length - (i + 1))
                case measure => have := HLT2.out; omega
                case rel => exact ⟨i + 1, HLT2.out, rfl, by rw [HTF.out, ← List.append_assoc], by go_num, KI.out⟩
              · obtain rfl : i = L.length := by omega
                clear hlt hi hb
                have B6 := Lib.hid (B5.out.trans (KI.out.mono B5.out.size))
                obtain ⟨p0, p1, _⟩ := UP.out wr B6.out
                obtain ⟨_, _, e1, _, _, _, _, hcc⟩ := (UP.out wr B6.out).2.2.2.1
                obtain ⟨b, off, v1, v2, e2, hSb, hN⟩ := hcc f HFL.out
                cases e1
                cases e2
                have d0 := hN.d0
                rw [List.take_length]
                have hadd := add_any11 (U ++ L.flatten) (p.funcs[f]'HFL.out).name (by have := HL.out.2; rw [List.length_append]; omega)
                rw [← HL.out.1] at hadd
                obtain ⟨X, hX⟩ : ∃ X, X = bs (U ++ L.flatten) := ⟨_, rfl⟩
                rw [← hX] at hadd
                rw [← hX]
                obtain ⟨nm, hnm⟩ : ∃ nm, nm = (p.funcs[f]'HFL.out).name := ⟨_, rfl⟩
                rw [← hnm] at d0 hadd
                clear hcc hSb hN hX hnm
                go_wp2_with fail
                go_roundg (p.funcs.length + 1 - (f + 1 + 1))
                case measure => have := HFL.out; omega
                case rel => exact ⟨f + 1 + 1, by have := HFL.out; omega, rfl, rfl, by rw [show (((f + 1 + 1 : Nat)) : Int) - 1 = (f : Int) + 1 from by omega], B6.out⟩
        · obtain rfl : k = p.funcs.length + 1 := by omega
          rw [show (((p.funcs.length + 1 : Nat)) : Int) - 1 = (p.funcs.length : Int) from by omega]
          have HUK := Lib.hid (hU.trans (upName_all p))
          clear hlt hk hb k0 hU
          have hle : U.length ≤ 140737488351232 := by have := HU.out; have := HB.out; omega
          obtain ⟨_, _, hBw, hf, hn, _⟩ := UP.out wr K.out
          obtain ⟨els, k1, k2, k3⟩ := els_of hn
          obtain ⟨fls, m1, m2, m3⟩ := fls_of hf
          have q1 : els.length ≤ 524288 := by have := items_flat p.body; have := (half_of_psz2 HP2.out).2.2; omega
          have q2 : fls.length ≤ 524288 := by have := (half_of_psz2 HP2.out).2.1; omega
          have HLN := Lib.hid (And.intro k1 m1)
          have HO1 := Lib.hid (els_one k1 k2)
          have HO2 := Lib.hid (fl_one fls fun e he => by
            obtain ⟨i, hi, rfl⟩ := List.getElem_of_mem he
            have := m2 i hi (by omega)
            obtain ⟨_, _, e1⟩ := this.args.form
            obtain ⟨_, _, e2⟩ := this.body.form
            exact ⟨by rw [e1]; rfl, by rw [e2]; rfl⟩)
          have HAS := Lib.hid (And.intro (apart_small HP2.out) (apart_law HE.out))
          obtain ⟨g, hst⟩ := ap_start (p := p) (N := U) (v1 := .slice a1 p.funcs.length c1) (v2 := .slice a2 p.body.len c2) hBw hle ⟨k1, k2⟩ ⟨m1, m2⟩ k3 m3
          have hb4 := (((Below.alloc (Below.refl wr.heap.size wr) (Nat.le_refl _) (.cells #[.int .u8 2, .string (tx U), .slice none 0 0, .slice none 0 0, .slice none 0 0] 61)).alloc (by simp) (.cells #[.int .u8 13, .string ⟨#[]⟩, .slice (some ⟨wr.heap.size, 0, none⟩) 1 1, .slice none 0 0, .slice none 0 0] 61)).alloc (by simp; omega) (.cells #[.int .u8 1, .string ⟨#[48]⟩, .slice none 0 0, .slice none 0 0, .slice none 0 0] 61)).alloc (by simp; omega) (.cells #[.int .u8 8, .string (tx U), .slice (some ⟨wr.heap.size + 1 + 1, 0, none⟩) 1 1, .slice none 0 0, .slice none 0 0] 61)
          obtain ⟨p0, p1, _⟩ := UP.out _ (K.out.trans (hb4.mono K.out.size))
          have X0 := Lib.hid hst
          have e0 : bs U = tx U := rfl
          rw [e0]
          clear hst hb4 k1 k2 k3 m1 m2 m3 hf hn hBw hle e0
          go_upto_region 17 with fail
          obtain ⟨s, hs⟩ : ∃ s, s = wr.heap.size := ⟨_, rfl⟩
          rw [← hs] at X0
          rw [← hs]
          generalize hW : ((((wr.alloc (.cells #[.int .u8 2, .string (tx U), .slice none 0 0, .slice none 0 0, .slice none 0 0] 61)).alloc (.cells #[.int .u8 13, .string ⟨#[]⟩, .slice (some ⟨s, 0, none⟩) 1 1, .slice none 0 0, .slice none 0 0] 61)).alloc (.cells #[.int .u8 1, .string ⟨#[48]⟩, .slice none 0 0, .slice none 0 0, .slice none 0 0] 61)).alloc (.cells #[.int .u8 8, .string (tx U), .slice (some ⟨s + 1 + 1, 0, none⟩) 1 1, .slice none 0 0, .slice none 0 0] 61)).alloc (.cells #[.slice a1 p.funcs.length c1, .slice a2 p.body.len c2] 25) = W5 at *
          clear hW hs p0 p1
          have UQ := Lib.hid (fun (W : World) (gg : Tags) (x1 x2 : Value) (h : ApSt wr W gg w.heap.size (s + 1) (s + 1 + 1 + 1) (s + 1 + 1 + 1 + 1) U (.slice (some ⟨s, 0, none⟩) 1 1) (.slice (some ⟨s + 1 + 1, 0, none⟩) 1 1) (.slice a1 p.funcs.length c1) (.slice a2 p.body.len c2) x1 x2 els fls p) => UP.out W (K.out.trans (h.since.below.mono K.out.size)))
          have T1 := Turn.alloc W5 g 16 (.cells #[.int .u8 13, .string ⟨#[]⟩, .slice (some ⟨s, 0, none⟩) 1 1, .slice none 0 0, .slice none 0 0] 61)
          have A1 := Lib.hid (X0.out.next T1 (fun t h => by cases h))
          have O1 := Lib.hid (owns_litN W5 g 16 61 5 #[.int .u8 13, .string ⟨#[]⟩, .slice (some ⟨s, 0, none⟩) 1 1, .slice none 0 0, .slice none 0 0] rfl)
          obtain ⟨u0, u1, u2, u3, u4⟩ := X0.out.uc
          obtain ⟨p0, p1, _⟩ := UQ.out _ _ _ _ A1.out
          clear T1
          go_upto_region 18 with (at_builtin; refine wpList_append_t _ rfl (.tmp 65) (.tmp 67) rfl nodeEl (g := g.ext W5.heap.size 16) (tg := 16) (n := 1) rfl O1.out rfl (A1.out.src.src HZ.out.2) HO1.out (by unfold maxLen; omega) (by omega) ?_; intro ao6 cap6 w6 g6 O6 T6; have A6 := Lib.hid (A1.out.next T6 (fun t h => by simp at h; omega)); have K6 := Lib.hid O6; obtain ⟨qc0, qc1, qf0, qf1⟩ := A6.out.qc; clear O6 T6)
          have HU2 := Lib.hid HUK.out
          obtain ⟨⟨_, _⟩, S7, T7⟩ := A6.out.put (.slice ao6 (1 + els.length) cap6)
          have A7 := Lib.hid S7
          have hO7 := K6.out.turn T7 (by simp)
          have F7 := Lib.hid ((UQ.out _ _ _ _ S7).2.2.2.1.mono (T := (· < (w6.setCell ⟨s + 1 + 1 + 1 + 1, 1, none⟩ (.slice ao6 (1 + els.length) cap6)).heap.size)) fun b hb _ => hb)
          have N7 := Lib.hid (show Nodes _ (· < _) false _ (apart1 p).body from by
            have := (ElsOk.app (els_uses A7.out.nu) A7.out.elok).nodes (n := 1 + els.length) (by rw [elCells_append]; exact hO7) (by simp; omega) (by omega)
            rw [HU2.out] at this; exact this)
          clear S7 hO7 T7 p0 p1 u0 u1 u2 u3 u4 qc0 qc1 qf0 qf1
          generalize w6.setCell ⟨s + 1 + 1 + 1 + 1, 1, none⟩ (.slice ao6 (1 + els.length) cap6) = W7 at *
          obtain ⟨qc0, qc1, qf0, qf1⟩ := A7.out.qc
          go_wp2_with fail
          refine (scheck_t (p := apart1 p) (Nat.le_refl _) F7.out N7.out HAS.out.1.1).mono ?_
          rintro e w8 ⟨he, hb8⟩
          rw [HAS.out.2.1] at he
          subst he
          have A8 := Lib.hid (A7.out.next (Turn.of_below hb8 g6 20) (fun t h => by simp at h))
          generalize g6.ext W7.heap.size 20 = g8 at A8
          clear hb8 qc0 qc1 qf0 qf1
          go_upto_region 20 with fail
          go_cut [] from 73 to 81 (fun wx => ApBody wr wx w.heap.size (s + 1) (s + 1 + 1 + 1) (s + 1 + 1 + 1 + 1) U (.slice (some ⟨s, 0, none⟩) 1 1) (.slice (some ⟨s + 1 + 1, 0, none⟩) 1 1) (.slice a1 p.funcs.length c1) (.slice a2 p.body.len c2) els fls p)
          case first =>
            obtain ⟨u0, u1, u2, u3, u4⟩ := A8.out.uc
            obtain ⟨s0, s1, s2, s3, s4⟩ := A8.out.sc
            obtain ⟨p0, p1, _⟩ := UQ.out _ _ _ _ A8.out
            have AO := Lib.hid (fun o => A8.out.next (Turn.alloc w8 g8 16 o) (fun t h => by cases h))
            have ou0 := fun o => (AO.out o).uc.1
            have ou1 := fun o => (AO.out o).uc.2.1
            have ou2 := fun o => (AO.out o).uc.2.2.1
            have ou3 := fun o => (AO.out o).uc.2.2.2.1
            have ou4 := fun o => (AO.out o).uc.2.2.2.2
            have os0 := fun o => (AO.out o).sc.1
            have os1 := fun o => (AO.out o).sc.2.1
            have os2 := fun o => (AO.out o).sc.2.2.1
            have os3 := fun o => (AO.out o).sc.2.2.2.1
            have os4 := fun o => (AO.out o).sc.2.2.2.2
            have op1 := fun o => (UQ.out _ _ _ _ (AO.out o)).2.1
            have opp1 := fun o o' => (UQ.out _ _ _ _ ((AO.out o).next (Turn.alloc (w8.alloc o) (g8.ext w8.heap.size 16) 16 o') (fun t h => by cases h))).2.1
            have D8 := Lib.hid (A8.out.next (Turn.drew w8 g8) (fun t h => by cases h))
            have AU := Lib.hid (D8.out.next (Turn.alloc w8.drew g8 17 (.cells #[.int .u8 13, .string ⟨#[]⟩, .slice (some ⟨s, 0, none⟩) 1 1, .slice none 0 0, .slice none 0 0] 61)) (fun t h => by cases h))
            have OU := Lib.hid (owns_litN w8.drew g8 17 61 5 #[.int .u8 13, .string ⟨#[]⟩, .slice (some ⟨s, 0, none⟩) 1 1, .slice none 0 0, .slice none 0 0] rfl)
            have Z1 := Lib.hid (show w8.heap.size + 1 = (w8.drew.alloc (.cells #[.int .u8 13, .string ⟨#[]⟩, .slice (some ⟨s, 0, none⟩) 1 1, .slice none 0 0, .slice none 0 0] 61)).heap.size from (World.size_alloc _ _).symm)
            have Z0 := Lib.hid (show w8.heap.size = w8.drew.heap.size from rfl)
            have AU2 := Lib.hid (AU.out.next (Turn.alloc (w8.drew.alloc (.cells #[.int .u8 13, .string ⟨#[]⟩, .slice (some ⟨s, 0, none⟩) 1 1, .slice none 0 0, .slice none 0 0] 61)) (g8.ext w8.drew.heap.size 17) 18 (.cells #[.int .u8 8, .string (tx U), .slice (some ⟨s + 1 + 1, 0, none⟩) 1 1, .slice none 0 0, .slice none 0 0] 61)) (fun t h => by cases h))
            have OU2 := Lib.hid (OU.out.turn (Turn.alloc (w8.drew.alloc (.cells #[.int .u8 13, .string ⟨#[]⟩, .slice (some ⟨s, 0, none⟩) 1 1, .slice none 0 0, .slice none 0 0] 61)) (g8.ext w8.drew.heap.size 17) 18 (.cells #[.int .u8 8, .string (tx U), .slice (some ⟨s + 1 + 1, 0, none⟩) 1 1, .slice none 0 0, .slice none 0 0] 61)) (by simp))
            have AS := Lib.hid (D8.out.next (Turn.alloc w8.drew g8 18 (.cells #[.int .u8 8, .string (tx U), .slice (some ⟨s + 1 + 1, 0, none⟩) 1 1, .slice none 0 0, .slice none 0 0] 61)) (fun t h => by cases h))
            have TS2 := Lib.hid (Turn.alloc (w8.drew.alloc (.cells #[.int .u8 8, .string (tx U), .slice (some ⟨s + 1 + 1, 0, none⟩) 1 1, .slice none 0 0, .slice none 0 0] 61)) (g8.ext w8.drew.heap.size 18) 17 (.cells #[.int .u8 13, .string ⟨#[]⟩, .slice (some ⟨s, 0, none⟩) 1 1, .slice none 0 0, .slice none 0 0] 61))
            have AS2 := Lib.hid (AS.out.next TS2.out (fun t h => by cases h))
            have OS2 := Lib.hid (show Owns ((w8.drew.alloc (.cells #[.int .u8 8, .string (tx U), .slice (some ⟨s + 1 + 1, 0, none⟩) 1 1, .slice none 0 0, .slice none 0 0] 61)).alloc (.cells #[.int .u8 13, .string ⟨#[]⟩, .slice (some ⟨s, 0, none⟩) 1 1, .slice none 0 0, .slice none 0 0] 61)) ((g8.ext w8.drew.heap.size 18).ext (w8.drew.alloc (.cells #[.int .u8 8, .string (tx U), .slice (some ⟨s + 1 + 1, 0, none⟩) 1 1, .slice none 0 0, .slice none 0 0] 61)).heap.size 17) 17 61 5 (.slice (some ⟨w8.heap.size + 1, 0, none⟩) 1 1) 1 _ from by
              have h := owns_litN (w8.drew.alloc (.cells #[.int .u8 8, .string (tx U), .slice (some ⟨s + 1 + 1, 0, none⟩) 1 1, .slice none 0 0, .slice none 0 0] 61)) (g8.ext w8.drew.heap.size 18) 17 61 5 #[.int .u8 13, .string ⟨#[]⟩, .slice (some ⟨s, 0, none⟩) 1 1, .slice none 0 0, .slice none 0 0] rfl
              rw [show (w8.drew.alloc (.cells #[.int .u8 8, .string (tx U), .slice (some ⟨s + 1 + 1, 0, none⟩) 1 1, .slice none 0 0, .slice none 0 0] 61)).heap.size = w8.heap.size + 1 from World.size_alloc _ _] at h ⊢
              exact h)
            go_region_law (first
              | (refine step_append_t rfl (.tmp 74) (.tmp 76) rfl nodeEl (g := g8.ext w8.drew.heap.size 17) (tg := 17) (n := 1) rfl OU.out rfl (AU.out.src.src HZ.out.2) HO1.out (by unfold maxLen; omega) (by omega) ?_; intro ao9 cap9 w9 g9 O9 T9; have A9 := Lib.hid (AU.out.next T9 (fun t h => by simp at h; omega)); have K9 := Lib.hid O9; obtain ⟨r0, r1, r2, r3, r4⟩ := A9.out.sc; clear O9 T9)
              | (refine step_append_t rfl (.tmp 74) (.tmp 76) rfl nodeEl (g := (g8.ext w8.drew.heap.size 17).ext (w8.drew.alloc (.cells #[.int .u8 13, .string ⟨#[]⟩, .slice (some ⟨s, 0, none⟩) 1 1, .slice none 0 0, .slice none 0 0] 61)).heap.size 18) (tg := 17) (n := 1) rfl OU2.out rfl (AU2.out.src.src HZ.out.2) HO1.out (by unfold maxLen; omega) (by omega) ?_; intro ao9 cap9 w9 g9 O9 T9; have A9 := Lib.hid (AU2.out.next T9 (fun t h => by simp at h; omega)); have K9 := Lib.hid O9; have L9 := Lib.hid (src_lit_at (n := 1) (size := 5) #[.int .u8 8, .string (tx U), .slice (some ⟨s + 1 + 1, 0, none⟩) 1 1, .slice none 0 0, .slice none 0 0] 61 18 Z1.out rfl T9 (show 18 ∉ [17] by decide)); obtain ⟨r0, r1, r2, r3, r4⟩ := A9.out.sc; clear O9 T9)
              | (refine step_append_t rfl (.tmp 74) (.tmp 76) rfl nodeEl (g := (g8.ext w8.drew.heap.size 18).ext (w8.drew.alloc (.cells #[.int .u8 8, .string (tx U), .slice (some ⟨s + 1 + 1, 0, none⟩) 1 1, .slice none 0 0, .slice none 0 0] 61)).heap.size 17) (tg := 17) (n := 1) rfl OS2.out rfl (AS2.out.src.src HZ.out.2) HO1.out (by unfold maxLen; omega) (by omega) ?_; intro ao9 cap9 w9 g9 O9 T9; have A9 := Lib.hid (AS2.out.next T9 (fun t h => by simp at h; omega)); have K9 := Lib.hid O9; have L9 := Lib.hid (src_lit_at (n := 1) (size := 5) #[.int .u8 8, .string (tx U), .slice (some ⟨s + 1 + 1, 0, none⟩) 1 1, .slice none 0 0, .slice none 0 0] 61 18 Z0.out rfl (TS2.out.trans T9 (V := [17]) (fun _ h => by cases h) (fun _ h => h)) (show 18 ∉ [17] by decide)); obtain ⟨r0, r1, r2, r3, r4⟩ := A9.out.sc; clear O9 T9)
              | (refine step_append_t rfl (.tmp 77) (.tmp 79) rfl nodeEl (g := g9) (tg := 17) (n := 1 + els.length) rfl K9.out rfl L9.out (by simp [Value.oneCell']) (by unfold maxLen; omega) (by omega) ?_; intro ao10 cap10 w10 g10 O10 T10; have A10 := Lib.hid (A9.out.next T10 (fun t h => by simp at h; omega)); have K10 := Lib.hid O10; obtain ⟨qc0, qc1, qf0, qf1⟩ := A10.out.qc; clear O10 T10)
              | (refine step_append_t rfl (.tmp 77) (.tmp 79) rfl nodeEl (g := g9.ext w9.heap.size 18) (tg := 17) (n := 1 + els.length) rfl (K9.out.turn (Turn.alloc w9 g9 18 (.cells #[.int .u8 8, .string (tx U), .slice (some ⟨s + 1 + 1, 0, none⟩) 1 1, .slice none 0 0, .slice none 0 0] 61)) (by simp)) rfl (Src.lit (n := 1) #[.int .u8 8, .string (tx U), .slice (some ⟨s + 1 + 1, 0, none⟩) 1 1, .slice none 0 0, .slice none 0 0] 61 rfl rfl) (by simp [Value.oneCell']) (by unfold maxLen; omega) (by omega) ?_; intro ao10 cap10 w10 g10 O10 T10; have A10 := Lib.hid ((A9.out.next (Turn.alloc w9 g9 18 (.cells #[.int .u8 8, .string (tx U), .slice (some ⟨s + 1 + 1, 0, none⟩) 1 1, .slice none 0 0, .slice none 0 0] 61)) (fun t h => by cases h)).next T10 (fun t h => by simp at h; omega)); have K10 := Lib.hid O10; obtain ⟨qc0, qc1, qf0, qf1⟩ := A10.out.qc; clear O10 T10))
            all_goals
              go_wp2_with fail
              go_meet
              exact ap_body A10.out K10.out
          case rest =>
            obtain ⟨g11, ao11, cap11, A11, O11⟩ := hcut
            have F11 := Lib.hid (fin_wide (UQ.out _ _ _ _ A11).2.2.2.1)
            have N11 := Lib.hid (ApBody.nodes A11 O11 HU2.out q1)
            have X11 := Lib.hid (And.intro A11 O11)
            obtain ⟨qc0, qc1, qf0, qf1⟩ := A11.qc
            clear A11 O11
            go_wp2_with fail
            refine (scheck_t (p := apart2 p) (Nat.le_refl _) F11.out N11.out HAS.out.1.2.1).mono ?_
            rintro e w12 ⟨he, hb12⟩
            rw [HAS.out.2.2.1] at he
            subst he
            obtain ⟨g12, T12⟩ := turn_ex hb12 g11
            have A12 := Lib.hid (X11.out.1.next T12 (fun t h => by cases h))
            have O12 := Lib.hid (X11.out.2.turn T12 (by simp))
            clear hb12 T12 qc0 qc1 qf0 qf1
            go_upto_region 23 with fail
            go_cut [] from 85 to 94 (fun wx => ApFun wr wx w.heap.size (s + 1) (s + 1 + 1 + 1) (s + 1 + 1 + 1 + 1) U (.slice (some ⟨s, 0, none⟩) 1 1) (.slice (some ⟨s + 1 + 1, 0, none⟩) 1 1) (.slice a1 p.funcs.length c1) (.slice a2 p.body.len c2) els fls p)
            case first =>
              obtain ⟨u0, u1, u2, u3, u4⟩ := A12.out.uc
              obtain ⟨p0, p1, _⟩ := UQ.out _ _ _ _ A12.out
              have AO := Lib.hid (fun o => A12.out.next (Turn.alloc w12 g12 16 o) (fun t h => by cases h))
              have op0 := fun o => (UQ.out _ _ _ _ (AO.out o)).1
              have opp0 := fun o o' => (UQ.out _ _ _ _ ((AO.out o).next (Turn.alloc (w12.alloc o) (g12.ext w12.heap.size 16) 16 o') (fun t h => by cases h))).1
              have D12 := Lib.hid (A12.out.next (Turn.drew w12 g12) (fun t h => by cases h))
              have E12 := Lib.hid (O12.out.turn (Turn.drew w12 g12) (by simp))
              have TU := Lib.hid (Turn.alloc w12.drew g12 15 (.cells #[.int .u8 13, .string ⟨#[]⟩, .slice (some ⟨s, 0, none⟩) 1 1, .slice none 0 0, .slice none 0 0] 61))
              have AU := Lib.hid (D12.out.next TU.out (fun t h => by cases h))
              have EU := Lib.hid (E12.out.turn TU.out (by simp))
              have NU := Lib.hid (uses_lit D12.out.nu)
              have Z1 := Lib.hid (show w12.heap.size + 1 = (w12.drew.alloc (.cells #[.int .u8 13, .string ⟨#[]⟩, .slice (some ⟨s, 0, none⟩) 1 1, .slice none 0 0, .slice none 0 0] 61)).heap.size from (World.size_alloc _ _).symm)
              have TF := Lib.hid (Turn.alloc (w12.drew.alloc (.cells #[.int .u8 13, .string ⟨#[]⟩, .slice (some ⟨s, 0, none⟩) 1 1, .slice none 0 0, .slice none 0 0] 61)) (g12.ext w12.drew.heap.size 15) 21 (.cells #[.string (tx U), .slice none 0 0, .slice (some ⟨w12.heap.size, 0, none⟩) 1 1] 57))
              have AF := Lib.hid (AU.out.next TF.out (fun t h => by cases h))
              have EF := Lib.hid (EU.out.turn TF.out (by simp))
              have NF := Lib.hid (nodes_turn NU.out TF.out quiet_nil)
              go_region_law (first
                | (refine step_append_0 rfl (.const (.slice none 0 0)) (.tmp 86) rfl fnElem (g := g12) (tg := 19) rfl rfl (D12.out.fsrc.src0 HZ.out.1) HO2.out (by unfold maxLen; omega) (by omega) ?_; intro ao13 cap13 w13 g13 O13 T13; have A13 := Lib.hid (D12.out.next T13 (fun t h => by simp at h; omega)); have B13 := Lib.hid (E12.out.turn T13 (by simp)); have K13 := Lib.hid O13; obtain ⟨r0, r1, r2, r3, r4⟩ := A13.out.uc; have V13 := Lib.hid (Turn.alloc w13 g13 15 (.cells #[.int .u8 13, .string ⟨#[]⟩, .slice (some ⟨s, 0, none⟩) 1 1, .slice none 0 0, .slice none 0 0] 61)); have U13 := Lib.hid (Turn.alloc (w13.alloc (.cells #[.int .u8 13, .string ⟨#[]⟩, .slice (some ⟨s, 0, none⟩) 1 1, .slice none 0 0, .slice none 0 0] 61)) (g13.ext w13.heap.size 15) 21 (.cells #[.string (tx U), .slice none 0 0, .slice (some ⟨w13.heap.size, 0, none⟩) 1 1] 57)); clear O13 T13)
                | (refine step_append_0 rfl (.const (.slice none 0 0)) (.tmp 86) rfl fnElem (g := g12.ext w12.drew.heap.size 15) (tg := 19) rfl rfl (AU.out.fsrc.src0 HZ.out.1) HO2.out (by unfold maxLen; omega) (by omega) ?_; intro ao13 cap13 w13 g13 O13 T13; have A13 := Lib.hid (AU.out.next T13 (fun t h => by simp at h; omega)); have B13 := Lib.hid (EU.out.turn T13 (by simp)); have K13 := Lib.hid O13; have N13 := Lib.hid (nodes_turn NU.out T13 (quiet_one (by decide))); have U13 := Lib.hid (Turn.alloc w13 g13 21 (.cells #[.string (tx U), .slice none 0 0, .slice (some ⟨w12.heap.size, 0, none⟩) 1 1] 57)); clear O13 T13)
                | (refine step_append_0 rfl (.const (.slice none 0 0)) (.tmp 86) rfl fnElem (g := (g12.ext w12.drew.heap.size 15).ext (w12.drew.alloc (.cells #[.int .u8 13, .string ⟨#[]⟩, .slice (some ⟨s, 0, none⟩) 1 1, .slice none 0 0, .slice none 0 0] 61)).heap.size 21) (tg := 19) rfl rfl (AF.out.fsrc.src0 HZ.out.1) HO2.out (by unfold maxLen; omega) (by omega) ?_; intro ao13 cap13 w13 g13 O13 T13; have A13 := Lib.hid (AF.out.next T13 (fun t h => by simp at h; omega)); have B13 := Lib.hid (EF.out.turn T13 (by simp)); have K13 := Lib.hid O13; have N13 := Lib.hid (nodes_turn NF.out T13 (quiet_one (by decide))); have L13 := Lib.hid (src_lit_at (n := 1) (size := 3) #[.string (tx U), .slice none 0 0, .slice (some ⟨w12.heap.size, 0, none⟩) 1 1] 57 21 Z1.out rfl T13 (show 21 ∉ [19] by decide)); clear O13 T13)
                | (refine step_append_t rfl (.tmp 87) (.tmp 92) rfl fnElem (g := (g13.ext w13.heap.size 15).ext (w13.alloc (.cells #[.int .u8 13, .string ⟨#[]⟩, .slice (some ⟨s, 0, none⟩) 1 1, .slice none 0 0, .slice none 0 0] 61)).heap.size 21) (tg := 19) (n := fls.length) rfl ((K13.out.turn V13.out (by simp)).turn U13.out (by simp)) rfl (Src.lit (n := 1) #[.string (tx U), .slice none 0 0, .slice (some ⟨w13.heap.size, 0, none⟩) 1 1] 57 (World.size_alloc _ _).symm rfl) (by simp [Value.oneCell']) (by unfold maxLen; omega) (by omega) ?_; intro ao14 cap14 w14 g14 O14 T14; have A14 := Lib.hid (((A13.out.next V13.out (fun t h => by cases h)).next U13.out (fun t h => by cases h)).next T14 (fun t h => by simp at h; omega)); have B14 := Lib.hid (((B13.out.turn V13.out (by simp)).turn U13.out (by simp)).turn T14 (by simp)); have K14 := Lib.hid O14; have N14 := Lib.hid (nodes_turn (nodes_turn (uses_lit A13.out.nu) U13.out quiet_nil) T14 (quiet_one (by decide))); obtain ⟨qc0, qc1, qf0, qf1⟩ := A14.out.qc; clear O14 T14)
                | (refine step_append_t rfl (.tmp 87) (.tmp 92) rfl fnElem (g := g13.ext w13.heap.size 21) (tg := 19) (n := fls.length) rfl (K13.out.turn U13.out (by simp)) rfl (Src.lit (n := 1) #[.string (tx U), .slice none 0 0, .slice (some ⟨w12.heap.size, 0, none⟩) 1 1] 57 rfl rfl) (by simp [Value.oneCell']) (by unfold maxLen; omega) (by omega) ?_; intro ao14 cap14 w14 g14 O14 T14; have A14 := Lib.hid ((A13.out.next U13.out (fun t h => by cases h)).next T14 (fun t h => by simp at h; omega)); have B14 := Lib.hid ((B13.out.turn U13.out (by simp)).turn T14 (by simp)); have K14 := Lib.hid O14; have N14 := Lib.hid (nodes_turn (nodes_turn N13.out U13.out quiet_nil) T14 (quiet_one (by decide))); obtain ⟨qc0, qc1, qf0, qf1⟩ := A14.out.qc; clear O14 T14)
                | (refine step_append_t rfl (.tmp 87) (.tmp 92) rfl fnElem (g := g13) (tg := 19) (n := fls.length) rfl K13.out rfl L13.out (by simp [Value.oneCell']) (by unfold maxLen; omega) (by omega) ?_; intro ao14 cap14 w14 g14 O14 T14; have A14 := Lib.hid (A13.out.next T14 (fun t h => by simp at h; omega)); have B14 := Lib.hid (B13.out.turn T14 (by simp)); have K14 := Lib.hid O14; have N14 := Lib.hid (nodes_turn N13.out T14 (quiet_one (by decide))); obtain ⟨qc0, qc1, qf0, qf1⟩ := A14.out.qc; clear O14 T14))
              all_goals
                go_wp2_with fail
                go_meet
                exact ap_fun A14.out B14.out K14.out N14.out
            case rest =>
              obtain ⟨g13, ao13, cap13, x2, vb, A13, B13, O13, Nb⟩ := hcut
              obtain ⟨ax, cx, rfl⟩ := B13.form
              have F13 := Lib.hid (ApFun.funcs A13 O13 (texts_none _ _) Nb HU2.out q2)
              have N13 := Lib.hid (ApBody.nodes A13 B13 HU2.out q1)
              have X13 := Lib.hid (And.intro A13 (And.intro B13 (And.intro O13 Nb)))
              obtain ⟨qc0, qc1, qf0, qf1⟩ := A13.qc
              clear A13 B13 O13 Nb
              go_wp2_with fail
              have hF13 := F13.out
              rw [show fls.length + 1 = (p.funcs ++ [(⟨bigName p, [], usesN (bigName p) .nil⟩ : Nd.Fn)]).length by rw [List.length_append, HLN.out.2]; rfl] at hF13
              refine (scheck_t (p := apart3 p) (Nat.le_refl _) F13.out N13.out HAS.out.1.2.2.1).mono ?_
              rintro e w14 ⟨he, hb14⟩
              rw [HAS.out.2.2.2.1] at he
              subst he
              obtain ⟨g14, T14⟩ := turn_ex hb14 g13
              have A14 := Lib.hid (X13.out.1.next T14 (fun t h => by cases h))
              have B14 := Lib.hid (X13.out.2.1.turn T14 (by simp))
              have O14 := Lib.hid (X13.out.2.2.1.turn T14 (by simp))
              have M14 := Lib.hid (nodes_turn X13.out.2.2.2 T14 quiet_nil)
              clear hb14 T14 qc0 qc1 qf0 qf1 hF13
              have T15 := Turn.alloc w14 g14 15 (.cells #[.string (tx U)] 9)
              have A15 := Lib.hid (A14.out.next T15 (fun t h => by cases h))
              have B15 := Lib.hid (B14.out.turn T15 (by simp))
              have O15 := Lib.hid (O14.out.turn T15 (by simp))
              have M15 := Lib.hid (nodes_turn M14.out T15 quiet_nil)
              have L15 := Lib.hid (texts_lit1 (W := w14) (g := g14) 9 A14.out.nl)
              clear T15
              obtain ⟨b15, off15, c15, hv15, _, _, _, _, hc15⟩ := O15.out.cell (by omega)
              cases hv15
              obtain ⟨z0, z1⟩ := hc15 (fls.length * 3 + 1) (by omega)
              obtain ⟨zz, hzz⟩ : ∃ zz, (flCells (fls ++ [newFl U (.slice none 0 0) vb]))[fls.length * 3 + 1]? = some zz := ⟨_, List.getElem?_eq_getElem (by rw [flCells_length]; simp; omega)⟩
              rw [hzz, ← Nat.add_assoc] at z0
              rw [← Nat.add_assoc] at z1
              have hfl := HLN.out.2
              rw [hfl] at z0 z1
              obtain ⟨qc0, qc1, qf0, qf1⟩ := A14.out.qc
              obtain ⟨p0, p1, _⟩ := UQ.out _ _ _ _ A14.out
              have ix : (p.funcs.length : Int) < (fls.length : Int) + 1 := by omega
              clear hc15 hzz hfl
              go_upto_region 27 with fail
              have S := O15.out.set (fls.length * 3 + 1) (by omega) (.slice (some ⟨w14.heap.size, 0, none⟩) 1 1)
              rw [fl_set, ← Nat.add_assoc, HLN.out.2] at S
              have O17 := S.1
              rw [show p.funcs.length + 1 = fls.length + 1 by rw [HLN.out.2]] at O17
              have A17 := Lib.hid (A15.out.next S.2 (fun t h => by simp at h; omega))
              have B17 := B15.out.turn S.2 (by simp)
              have M17 := nodes_turn M15.out S.2 (quiet_one (by decide))
              have L17 := texts_turn L15.out S.2 (quiet_one (by decide))
              have hU2 := HU2.out
              have F17 := Lib.hid (ApFun.funcs (args := [U]) A17.out O17 L17 M17 hU2 q2)
              have N17 := Lib.hid (ApBody.nodes A17.out B17 hU2 q1)
              clear S O17 B17 M17 L17 z0 z1 p0 p1 qc0 qc1 qf0 qf1
              generalize (w14.alloc (.cells #[.string (tx U)] 9)).setCell ⟨b15, off15 + p.funcs.length * 3 + 1, none⟩ (.slice (some ⟨w14.heap.size, 0, none⟩) 1 1) = W17 at *
              obtain ⟨qc0, qc1, qf0, qf1⟩ := A17.out.qc
              rw [hU2] at F17
              clear hU2
              go_wp2_with fail
              refine (scheck_t (p := apart4 p) (Nat.le_refl _) F17.out N17.out HAS.out.1.2.2.2).mono ?_
              rintro e w18 ⟨he, hb18⟩
              rw [HAS.out.2.2.2.2] at he
              subst he
              have B18 := Lib.hid (UP.out w18 (K.out.trans ((A17.out.since.below.trans (hb18.mono A17.out.since.below.size)).mono K.out.size)))
              clear hb18
              go_wp2_with fail
              go_ret
              exact ⟨rfl, B18.out.2.2.2.2.2⟩
    · clear hE HS
      have h0' : ((E : Int) != 0) = true := by rw [bne_iff_ne]; omega
      go_wp2_with fail
      refine (alive11_t (w := w3)).mono ?_
      rintro e w4 ⟨rfl, hb4⟩
      have B4 := Lib.hid (B3.out.trans (hb4.mono B3.out.size))
      clear hb4 p0 p1
      go_wp2_with fail
      go_ret
      exact ⟨rfl, (UP.out w4 B4.out).2.2.2.2.2⟩
  · have hm2 : (1000 : Int) < m := by omega
    clear hm
    go_wp2_with fail
    refine (alive11_t (w := w2)).mono ?_
    rintro e w3 ⟨rfl, hb3⟩
    have B3 := Lib.hid (B2.out.trans (hb3.mono B2.out.size))
    clear hb3 p0 p1
    go_wp2_with fail
    go_ret
    exact ⟨rfl, (UP.out w3 B3.out).2.2.2.2.2⟩
end Go.Proofs.YtmkhfonafcikdaaGreatDoor
