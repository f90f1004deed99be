/- The document's scopes: is there what is called; does each name in nodes stand for something. -/
import Derived.Test.YtmkhfonafcikdaaGreatDoorScRLetsT
import Derived.Test.YtmkhfonafcikdaaGreatDoorScRefLT
import Derived.Test.YtmkhfonafcikdaaGreatDoorScHeadT
import Derived.Test.YtmkhfonafcikdaaGreatDoorTrA2
import Derived.Deep.CutRange
namespace Go.Nd
theorem callsP_at {fs : List Fn} {s : Tx} {i : Nat} (hi : i < fs.length) (h : ∀ f ∈ fs.take i, f.name ≠ s) (he : (fs[i]).name = s) (k : Nat) : callsP fs s k = ((fs[i]).args.length == k) := by
  have hf : fs.find? (fun f => f.name == s) = some fs[i] := by
    have e : fs = fs.take i ++ (fs[i] :: fs.drop (i + 1)) := by rw [← List.drop_eq_getElem_cons hi, List.take_append_drop]
    rw [congrArg (List.find? (fun f => f.name == s)) e, List.find?_append]
    have h1 : (fs.take i).find? (fun f => f.name == s) = none := by
      rw [List.find?_eq_none]
      intro f hf
      simp [h f hf]
    rw [h1, Option.none_or, List.find?_cons]
    have h2 : ((fs[i]).name == s) = true := by simp [he]
    rw [h2]
  unfold callsP
  rw [hf]
theorem callsP_none {fs : List Fn} {s : Tx} (h : ∀ f ∈ fs, f.name ≠ s) (k : Nat) : callsP fs s k = (libOf s == some k) := by
  have hf : fs.find? (fun f => f.name == s) = none := by
    rw [List.find?_eq_none]
    intro f hf
    simp [h f hf]
  unfold callsP
  rw [hf]
end Go.Nd
namespace Go.Proofs.YtmkhfonafcikdaaGreatDoor
open Go.RowKit Go.My Go.Nd

def CaAt (wb : World) (fs : List Nd.Fn) (s : Tx) (gk : Nat) (v7 : Value) (wr : World) : Prop :=
  ∃ i, i ≤ fs.length ∧ gk = fs.length - i ∧ v7 = .int .i64 (i : Int) ∧ (∀ f ∈ fs.take i, f.name ≠ s) ∧ Below wb.heap.size wb wr

set_option maxRecDepth 100000 in
set_option maxHeartbeats 4000000 in
theorem rcalls_t {w : World} {B : Nat} {tw : Bool} {fs : List Nd.Fn} {a1 a2 : Option Addr} {n2 c1 c2 : Nat} (hB : B ≤ w.heap.size) (h1 : FuncsIn w (· < B) tw (.slice a1 fs.length c1) fs) (s : Tx) (k : Nat) :
    Calls Tryz.prog 106 #[.agg #[.slice a1 fs.length c1, .slice a2 n2 c2], .string (bs s), .int .i64 (k : Int)] w fun e w' => e = .returned (.bool (callsP fs s k)) ∧ Below w.heap.size w w' := by
  obtain ⟨_, _, ee, _, _, hr, _, hc⟩ := h1
  cases ee
  have hA := Below.alloc (Below.refl w.heap.size w) (Nat.le_refl _) (.cells #[.slice a1 fs.length c1, .slice a2 n2 c2] 25)
  have hrow := heap_alloc_new w (.cells #[.slice a1 fs.length c1, .slice a2 n2 c2] 25)
  have hlt0 : w.heap.size < (w.alloc (.cells #[.slice a1 fs.length c1, .slice a2 n2 c2] 25)).heap.size := by simp
  have HC := Lib.hid hc
  have HB := Lib.hid hB
  have l0 : (0 : Int) ≤ (fs.length : Int) := by omega
  have l1 : (fs.length : Int) ≤ 140737488351232 := by omega
  clear hc hr hB
  go_enter Tryz.func106, Tryz.ntmps106
  go_upto_region 1 with fail
  obtain ⟨wb, hwb⟩ : ∃ wb, wb = w.alloc (.cells #[.slice a1 fs.length c1, .slice a2 n2 c2] 25) := ⟨_, rfl⟩
  rw [← hwb] at hA hrow hlt0 ⊢
  have HA := Lib.hid (And.intro hA (And.intro hrow hlt0))
  clear hwb hA hrow hlt0
  go_wp2_with fail
  go_loopg [7] fs.length (fun gk v7 wr => CaAt wb fs s gk v7 wr)
  case atStart => exact ⟨0, Nat.zero_le _, rfl, rfl, (fun f h => by simp at h), Below.refl _ _⟩
  case round =>
    obtain ⟨i, hi, rfl, rfl, hne, hb⟩ := hrel
    have i0 : (0 : Int) ≤ (i : Int) := by omega
    have K := Lib.hid (And.intro hb hne)
    have p0 := (World.cell?_of_block (hb.block w.heap.size HA.out.2.2)).trans (cell_of_row wb w.heap.size 0 _ _ _ HA.out.2.1)
    simp at p0
    have KB := Lib.hid (HA.out.1.trans (hb.mono HA.out.1.size))
    by_cases hlt : i < fs.length
    · have i1 : (i : Int) < (fs.length : Int) := by omega
      obtain ⟨b, off, v1, v2, e, hS, hN⟩ := HC.out i hlt
      cases e
      obtain ⟨a3, c3, r1⟩ := hN.args.form
      subst r1
      have hblk := (KB.out.mono HB.out).block b hS
      have d0 := (World.cell?_of_block hblk).trans hN.d0
      have d1 := (World.cell?_of_block hblk).trans hN.d1
      obtain ⟨f, hf⟩ : ∃ f, f = fs[i] := ⟨_, rfl⟩
      rw [← hf] at d0 d1
      have hT1 : (tx f.name).toList = f.name := bsT f.name
      have hT2 := bsT s
      have HF := Lib.hid (show ∃ h : i < fs.length, f = fs[i] from ⟨hlt, hf⟩)
      clear hN hS hblk hf hb hne
      by_cases he : f.name = s
      · have HE := Lib.hid (show callsP fs s k = (f.args.length == k) from by
          obtain ⟨h, e⟩ := HF.out
          rw [e]; exact callsP_at h K.out.2 (by rw [← e]; exact he) k)
        rw [he] at d0 hT1
        have hq : ((f.args.length : Int) == (k : Int)) = (f.args.length == k) := by rw [Bool.eq_iff_iff]; simp only [beq_iff_eq]; omega
        have HQ := Lib.hid hq
        clear he hlt hq
        go_wp2_with fail
        go_ret
        refine ⟨?_, KB.out⟩
        rw [HE.out, ← HQ.out]; rfl
      · have HE := Lib.hid he
        have hb2 : (f.name == s) = false := beq_eq_false_iff_ne.2 he
        have hb3 : ((tx f.name).toList == s) = false := by rw [hT1]; exact hb2
        have HLT := Lib.hid hlt
        clear he hlt
        go_wp2_with fail
        go_roundg (fs.length - (i + 1))
        case measure => have := HLT.out; omega
        case rel => exact ⟨i + 1, HLT.out, rfl, by go_num, (fun g hg => by
          rw [List.take_succ_eq_append_getElem HLT.out, List.mem_append, List.mem_singleton] at hg
          rcases hg with hg | rfl
          · exact K.out.2 g hg
          · obtain ⟨h, e⟩ := HF.out
            rw [← e]; exact HE.out), K.out.1⟩
    · obtain rfl : i = fs.length := by omega
      rw [List.take_length] at hne
      have HE := Lib.hid (callsP_none hne k)
      clear hlt hi hne hb
      go_wp2_with fail
      refine (rlib_t s).mono ?_
      rintro e w5 ⟨rfl, hb5⟩
      have KZ := Lib.hid (KB.out.trans (hb5.mono KB.out.size))
      clear hb5
      cases hL : libOf s with
      | none =>
        rw [hL] at HE
        simp only [Option.isSome_none, Option.getD_none]
        go_wp2_with fail
        go_ret
        exact ⟨by rw [HE.out]; rfl, KZ.out⟩
      | some n =>
        rw [hL] at HE
        simp only [Option.isSome_some, Option.getD_some]
        have HQ := Lib.hid (show ((n : Int) == (k : Int)) = (some n == some k) by rw [Bool.eq_iff_iff]; simp only [beq_iff_eq, Option.some.injEq]; omega)
        go_wp2_with fail
        go_ret
        refine ⟨?_, KZ.out⟩
        rw [HE.out, ← HQ.out]; rfl

def KnAt (wb : World) (fs : List Nd.Fn) (own : List Tx) (xs : Ns) (gk : Nat) (v7 : Value) (wr : World) : Prop :=
  ∃ i : Nat, i ≤ xs.items.length ∧ gk = xs.items.length - i ∧ v7 = .int .i64 (i : Int) ∧ (xs.items.drop i).all (knownOne fs own) = known fs own xs ∧ Below wb.heap.size wb wr

def KnownSaid (fs : List Nd.Fn) (own : List Tx) (xs : Ns) : Prop := ∀ (w : World) (B : Nat) (S : Nat → Prop) (tw : Bool) (a1 a2 : Option Addr) (n2 c1 c2 : Nat) (vo v : Value), B ≤ w.heap.size → (∀ b, b < w.heap.size → S b → b < B) → FuncsIn w (· < B) tw (.slice a1 fs.length c1) fs → TextsIn w S false vo own → Nodes w (· < B) tw v xs →
  Calls Tryz.prog 44 #[.agg #[.slice a1 fs.length c1, .slice a2 n2 c2], vo, v] w fun e w' => e = .returned (.bool (known fs own xs)) ∧ Below w.heap.size w w'

set_option maxRecDepth 100000 in
set_option maxHeartbeats 16000000 in
theorem rknown_t (fs : List Nd.Fn) (own : List Tx) : ∀ xs, KnownSaid fs own xs := by
  refine Ns.each fun xs ih w0 B S tw ap1 ap2 np2 cp1 cp2 vo v hB hSB hF hO hv => ?_
  obtain ⟨ao, co, rfl⟩ := hO.form
  have hA0 := Below.alloc (Below.refl w0.heap.size w0) (Nat.le_refl _) (.cells #[.slice ap1 fs.length cp1, .slice ap2 np2 cp2] 25)
  have hrow := heap_alloc_new w0 (.cells #[.slice ap1 fs.length cp1, .slice ap2 np2 cp2] 25)
  have hlt0 : w0.heap.size < (w0.alloc (.cells #[.slice ap1 fs.length cp1, .slice ap2 np2 cp2] 25)).heap.size := by simp
  obtain ⟨w, hwb⟩ : ∃ w, w = w0.alloc (.cells #[.slice ap1 fs.length cp1, .slice ap2 np2 cp2] 25) := ⟨_, rfl⟩
  rw [← hwb] at hA0 hrow hlt0
  have hv1 := hv.below (hA0.mono hB)
  have hF1 := hF.below (hA0.mono hB)
  have hO1 : TextsIn w (fun b => b < B) false (.slice ao own.length co) own := (hO.mono hSB).below (hA0.mono hB)
  obtain ⟨a, c, rfl, hr, hc⟩ := hv1.open_
  have HI := Lib.hid ih
  have HC := Lib.hid hc
  have HBB := Lib.hid (Nat.le_trans hB hA0.size)
  have HP := Lib.hid (And.intro hF1 hO1)
  have HA := Lib.hid (And.intro hA0 (And.intro hrow hlt0))
  have l00 : (0 : Int) ≤ (xs.items.length : Int) := by omega
  have l01 : (xs.items.length : Int) ≤ 140737488351232 := by have := hr.2.2.1; omega
  clear ih hv hv1 hF hF1 hO hO1 hc hr hA0 hrow hlt0 hB hSB
  go_enter Tryz.func44, Tryz.ntmps44
  go_upto_region 1 with fail
  rw [← hwb]
  clear hwb
  go_wp2_with fail
  go_loopg [7] xs.items.length (fun gk v7 wr => KnAt w fs own xs gk v7 wr)
  case atStart => exact ⟨0, Nat.zero_le _, rfl, rfl, by rw [known_items]; rfl, Below.refl _ _⟩
  case round =>
    obtain ⟨i, hi, rfl, rfl, hd, hb⟩ := hrel
    have i0 : (0 : Int) ≤ (i : Int) := by omega
    have HPB := Lib.hid (fun (W : World) (h : Below w.heap.size w W) => show W.cell? ⟨w0.heap.size, 0, none⟩ = some (.slice ap1 fs.length cp1) ∧ W.cell? ⟨w0.heap.size, 1, none⟩ = some (.slice ap2 np2 cp2) from
      ⟨(World.cell?_of_block (h.block w0.heap.size HA.out.2.2)).trans (cell_of_row w w0.heap.size 0 _ _ _ HA.out.2.1), (World.cell?_of_block (h.block w0.heap.size HA.out.2.2)).trans (cell_of_row w w0.heap.size 1 _ _ _ HA.out.2.1)⟩)
    by_cases hlt : i < xs.items.length
    · have i1 : (i : Int) < (xs.items.length : Int) := by omega
      obtain ⟨b, off, v1, v2, v3, rfl, hS, hN⟩ := HC.out i hlt
      have hN' := hN.frame hS fun k hk _ => hb.block k (Nat.lt_of_lt_of_le hk HBB.out)
      obtain ⟨x, hx⟩ : ∃ x, x = xs.items[i] := ⟨_, rfl⟩
      rw [← hx] at hN'
      have hI := HI.out _ (List.getElem_mem hlt)
      rw [← hx] at hI
      have hdr := items_cons_drop xs i hlt
      rw [← hx] at hdr
      obtain ⟨kd, tt, xl, xb, xe⟩ := x
      have d0 := hN'.d0
      have d1 := hN'.d1
      have d2 := hN'.d2
      have d3 := hN'.d3
      have d4 := hN'.d4
      have ht := hN'.text
      have hk8 := hN'.kind
      obtain ⟨a1, c1, rfl, s1, m1⟩ := hN'.l
      obtain ⟨a2, c2, rfl, s2, m2⟩ := hN'.body
      obtain ⟨a3, c3, rfl, s3, m3⟩ := hN'.els
      simp only at d0 d1 d2 d3 d4 ht hk8
      have etx : tx tt = bs tt := rfl
      rw [etx] at d1
      have hs := bs_tl tt
      have hBr : B ≤ wr.heap.size := Nat.le_trans HBB.out hb.size
      have n1 : Nodes wr (· < B) tw (.slice a1 xl.len c1) xl := ⟨a1, c1, rfl, s1, m1⟩
      have n2 : Nodes wr (· < B) tw (.slice a2 xb.len c2) xb := ⟨a2, c2, rfl, s2, m2⟩
      have n3 : Nodes wr (· < B) tw (.slice a3 xe.len c3) xe := ⟨a3, c3, rfl, s3, m3⟩
      have hA := Below.alloc (Below.refl wr.heap.size wr) (Nat.le_refl _) (.cells #[.int .u8 (kd : Int), .string (bs tt), .slice a1 xl.len c1, .slice a2 xb.len c2, .slice a3 xe.len c3] 61)
      obtain ⟨bx, hbx⟩ : ∃ bx, bx = wr.heap.size := ⟨_, rfl⟩
      obtain ⟨w4, hw4⟩ : ∃ w4, w4 = wr.alloc (.cells #[.int .u8 (kd : Int), .string (bs tt), .slice a1 xl.len c1, .slice a2 xb.len c2, .slice a3 xe.len c3] 61) := ⟨_, rfl⟩
      have hbox : ∀ w1, Below w4.heap.size w4 w1 → w1.cell? ⟨bx, 0, none⟩ = some (.int .u8 (kd : Int)) ∧ w1.cell? ⟨bx, 1, none⟩ = some (.string (bs tt)) ∧ w1.cell? ⟨bx, 2, none⟩ = some (.slice a1 xl.len c1) ∧ w1.cell? ⟨bx, 3, none⟩ = some (.slice a2 xb.len c2) ∧ w1.cell? ⟨bx, 4, none⟩ = some (.slice a3 xe.len c3) := by
        intro w1 hb1
        rw [hw4] at hb1
        rw [hbx]
        have q0 := box_later hb1 0
        have q1 := box_later hb1 1
        have q2 := box_later hb1 2
        have q3 := box_later hb1 3
        have q4 := box_later hb1 4
        simp at q0 q1 q2 q3 q4
        exact ⟨q0, q1, q2, q3, q4⟩
      have hAB := hA.mono hBr
      rw [← hw4] at hA hAB
      have HX := Lib.hid hbox
      have K4 := Lib.hid (hb.trans (hA.mono hb.size))
      have N1 := Lib.hid (n1.below hAB)
      have N2 := Lib.hid (n2.below hAB)
      have N3 := Lib.hid (n3.below hAB)
      have HI2 := Lib.hid hI
      have HD := Lib.hid (hdr ▸ hd)
      have HBr := Lib.hid (Nat.le_trans hBr hA.size)
      have HT := Lib.hid (show tt.length ≤ 9223372036854775807 by omega)
      have k0 : (0 : Int) ≤ (kd : Int) := by omega
      have k1 : (kd : Int) < 256 := by omega
      have l0 : (0 : Int) ≤ (xl.len : Int) := by omega
      have b0 : (0 : Int) ≤ (xb.len : Int) := by omega
      have e0 : (0 : Int) ≤ (xe.len : Int) := by omega
      clear hN hN' s1 s2 s3 m1 m2 m3 n1 n2 n3 hA hAB hbox hb hd hx hdr hI hS ht hk8 etx hBr
      have HLT := Lib.hid hlt
      clear hlt hi
      go_upto_region 5 with fail
      rw [← hw4, ← hbx]
      clear hw4 hbx
      have FIN := Lib.hid (fun (wz : World) (hone : knownOne fs own ⟨kd, tt, xl, xb, xe⟩ = false) (hz : Below w4.heap.size w4 wz) => show Ending.returned (.bool false) = Ending.returned (.bool (known fs own xs)) ∧ Below w0.heap.size w0 wz from by
        have hd := HD.out
        rw [List.all_cons, hone, Bool.false_and] at hd
        exact ⟨by rw [← hd], HA.out.1.trans ((K4.out.trans (hz.mono K4.out.size)).mono HA.out.1.size)⟩)
      have UP := Lib.hid (fun (wz : World) (hz : Below w4.heap.size w4 wz) => show B ≤ wz.heap.size ∧ FuncsIn wz (· < B) tw (.slice ap1 fs.length cp1) fs ∧ TextsIn wz (· < B) false (.slice ao own.length co) own ∧ Below w.heap.size w wz from by
        have h := K4.out.trans (hz.mono K4.out.size)
        exact ⟨Nat.le_trans HBB.out h.size, HP.out.1.below (h.mono HBB.out), HP.out.2.below (h.mono HBB.out), h⟩)
      obtain ⟨kx, hkx⟩ : ∃ kx, kx = knownX fs own ⟨kd, tt, xl, xb, xe⟩ := ⟨_, rfl⟩
      have HKX := Lib.hid hkx
      clear hkx
      go_cut [49] from 9 to 71 (fun v49 wx => v49 = .bool (!kx) ∧ Below w4.heap.size w4 wx)
      case first =>
        obtain ⟨e0, e1, e2, e3, e4⟩ := HX.out w4 (Below.refl _ _)
        clear e3 e4
        by_cases h2 : kd = 2
        · have h2' : (kd : Int) = 2 := by omega
          have HK2 := Lib.hid (show kx = (Go.Nd.letters.contains tt || own.contains tt) from by rw [HKX.out]; unfold knownX; simp only [h2]; cases Go.Nd.letters.contains tt <;> cases own.contains tt <;> rfl)
          clear h2
          go_wp2_with fail
          refine (rletter_t tt).mono ?_
          rintro e w5 ⟨rfl, hb5⟩
          obtain ⟨e0', e1', _, _, _⟩ := HX.out w5 hb5
          have H5 := Lib.hid hb5
          clear hb5 e0 e1 e2
          cases hl : Go.Nd.letters.contains tt with
          | true =>
            have HL := Lib.hid hl
            clear hl
            go_wp2_with fail
            go_meet
            case rel => exact ⟨by rw [HK2.out, HL.out]; rfl, H5.out⟩
          | false =>
            have HL := Lib.hid hl
            clear hl
            go_wp2_with fail
            refine (rin_t (UP.out w5 H5.out).2.2.1 tt).mono ?_
            rintro e w6 ⟨rfl, hb6⟩
            obtain ⟨e0, _, _, _, _⟩ := HX.out w6 (H5.out.trans (hb6.mono H5.out.size))
            have H6 := Lib.hid (H5.out.trans (hb6.mono H5.out.size))
            clear hb6 e0' e1'
            cases hi2 : own.contains tt with
            | true =>
              have HI3 := Lib.hid hi2
              clear hi2
              go_wp2_with fail
              go_meet
              case rel => exact ⟨by rw [HK2.out, HL.out, HI3.out]; rfl, H6.out⟩
            | false =>
              have HI3 := Lib.hid hi2
              clear hi2
              go_wp2_with fail
              go_meet
              case rel => exact ⟨by rw [HK2.out, HL.out, HI3.out]; rfl, H6.out⟩
        · by_cases h4 : kd = 4
          · have h4' : (kd : Int) = 4 := by omega
            have HK2 := Lib.hid (show kx = callsP fs tt xl.len from by rw [HKX.out]; unfold knownX; simp only [h4]; cases callsP fs tt xl.len <;> rfl)
            obtain ⟨p0, p1⟩ := HPB.out w4 K4.out
            clear h2 h4
            go_wp2_with fail
            refine (rcalls_t HBr.out (UP.out w4 (Below.refl _ _)).2.1 tt xl.len).mono ?_
            rintro e w5 ⟨rfl, hb5⟩
            have H5 := Lib.hid hb5
            clear hb5 e0 e1 e2 p0 p1
            rw [← HK2.out]
            go_wp2_with fail
            go_meet
            case rel => exact ⟨by cases kx <;> rfl, H5.out⟩
          · have h2' : ((kd : Int) == 2) = false := by rw [beq_eq_false_iff_ne]; omega
            have h4' : ((kd : Int) == 4) = false := by rw [beq_eq_false_iff_ne]; omega
            have HK2 := Lib.hid (show kx = true from by rw [HKX.out]; unfold knownX; simp [h2, h4])
            clear h2 h4
            go_wp2_with fail
            go_meet
            case rel => exact ⟨by rw [HK2.out]; rfl, Below.refl _ _⟩
      case rest =>
        obtain ⟨rfl, hbc⟩ := hcut
        have HC2 := Lib.hid hbc
        clear hbc
        cases kx with
        | false =>
          go_wp2_with fail
          go_ret
          exact FIN.out _ (by unfold knownOne; rw [← HKX.out]; rfl) HC2.out
        | true =>
          obtain ⟨p0, p1⟩ := HPB.out wc (UP.out wc HC2.out).2.2.2
          obtain ⟨_, _, e2, _, _⟩ := HX.out wc HC2.out
          go_wp2_with fail
          refine (HI2.out.1 wc B (· < B) tw _ _ _ _ _ _ _ (UP.out wc HC2.out).1 (fun _ _ h => h) (UP.out wc HC2.out).2.1 (UP.out wc HC2.out).2.2.1 (N1.out.below (HC2.out.mono HBr.out))).mono ?_
          rintro e w5 ⟨rfl, hb5⟩
          have H5 := Lib.hid (HC2.out.trans (hb5.mono HC2.out.size))
          obtain ⟨p0', p1'⟩ := HPB.out w5 (UP.out w5 H5.out).2.2.2
          obtain ⟨_, _, _, e3, _⟩ := HX.out w5 H5.out
          clear hb5 p0 p1 e2
          cases hk1 : known fs own xl with
          | false =>
            have HK1 := Lib.hid hk1
            clear hk1
            go_wp2_with fail
            go_ret
            exact FIN.out _ (by unfold knownOne; rw [← HKX.out, HK1.out]; rfl) H5.out
          | true =>
            have HK1 := Lib.hid hk1
            clear hk1
            go_wp2_with fail
            refine (HI2.out.2.1 w5 B (· < B) tw _ _ _ _ _ _ _ (UP.out w5 H5.out).1 (fun _ _ h => h) (UP.out w5 H5.out).2.1 (UP.out w5 H5.out).2.2.1 (N2.out.below (H5.out.mono HBr.out))).mono ?_
            rintro e w6 ⟨rfl, hb6⟩
            have H6 := Lib.hid (H5.out.trans (hb6.mono H5.out.size))
            obtain ⟨p0, p1⟩ := HPB.out w6 (UP.out w6 H6.out).2.2.2
            obtain ⟨_, _, _, _, e4⟩ := HX.out w6 H6.out
            clear hb6 p0' p1' e3
            cases hk2 : known fs own xb with
            | false =>
              have HK2 := Lib.hid hk2
              clear hk2
              go_wp2_with fail
              go_ret
              exact FIN.out _ (by unfold knownOne; rw [← HKX.out, HK1.out, HK2.out]; rfl) H6.out
            | true =>
              have HK2 := Lib.hid hk2
              clear hk2
              go_wp2_with fail
              refine (HI2.out.2.2 w6 B (· < B) tw _ _ _ _ _ _ _ (UP.out w6 H6.out).1 (fun _ _ h => h) (UP.out w6 H6.out).2.1 (UP.out w6 H6.out).2.2.1 (N3.out.below (H6.out.mono HBr.out))).mono ?_
              rintro e w7 ⟨rfl, hb7⟩
              have H7 := Lib.hid (H6.out.trans (hb7.mono H6.out.size))
              clear hb7 p0 p1 e4
              cases hk3 : known fs own xe with
              | false =>
                have HK3 := Lib.hid hk3
                clear hk3
                go_wp2_with fail
                go_ret
                exact FIN.out _ (by unfold knownOne; rw [← HKX.out, HK1.out, HK2.out, HK3.out]; rfl) H7.out
              | true =>
                have HK3 := Lib.hid hk3
                clear hk3
                have HNX := Lib.hid (show (xs.items.drop (i + 1)).all (knownOne fs own) = known fs own xs from by
                  have hd := HD.out
                  rw [List.all_cons, show knownOne fs own ⟨kd, tt, xl, xb, xe⟩ = true from by unfold knownOne; rw [← HKX.out, HK1.out, HK2.out, HK3.out]; rfl, Bool.true_and] at hd
                  exact hd)
                go_wp2_with fail
                go_roundg (xs.items.length - (i + 1))
                case measure => have := HLT.out; omega
                case rel => exact ⟨i + 1, HLT.out, rfl, by go_num, HNX.out, (UP.out w7 H7.out).2.2.2⟩
    · obtain rfl : i = xs.items.length := by omega
      rw [List.drop_length] at hd
      have HD := Lib.hid (show known fs own xs = true from hd.symm)
      clear hlt hi hd
      go_wp2_with fail
      go_ret
      exact ⟨by rw [HD.out]; rfl, HA.out.1.trans (hb.mono HA.out.1.size)⟩
end Go.Proofs.YtmkhfonafcikdaaGreatDoor
