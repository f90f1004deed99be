/- Scopes: ScopesUsed: is a text in a list; does each name that nodes use stand in a list. -/
import Derived.Test.YtmkhfonafcikdaaGreatDoorScRefU
import Derived.Test.YtmkhfonafcikdaaGreatDoorScHeadU
import Derived.Test.YtmkhfonafcikdaaGreatDoorScLetU
import Derived.Test.YtmkhfonafcikdaaGreatDoorTrB2
import Derived.Deep.CutRange
namespace Go.Nd
def usedAll (own : List Tx) (xs : Ns) : Bool := xs.flat.all (usedX own)
def usedOne (own : List Tx) (x : Nd) : Bool := usedX own x && usedAll own x.l && usedAll own x.body && usedAll own x.els
theorem used_items (own : List Tx) (xs : Ns) : usedAll own xs = xs.items.all (usedOne own) := by
  induction xs with
  | nil => rfl
  | cons k t l b e r _ _ _ ih =>
    show (_ :: (l.flat ++ (b.flat ++ (e.flat ++ r.flat)))).all _ = (_ :: r.items).all _
    rw [List.all_cons, List.all_append, List.all_append, List.all_append, List.all_cons, ← ih]
    unfold usedOne usedAll
    simp only [Bool.and_assoc]
end Go.Nd
namespace Go.Proofs.YtmkhfonafcikdaaGreatDoor
open Go.RowKit Go.My Go.Nd

def HsAt (w : World) (ts : List Tx) (s : Tx) (gk : Nat) (v5 : Value) (wr : World) : Prop :=
  ∃ i, i ≤ ts.length ∧ gk = ts.length - i ∧ v5 = .int .i64 (i : Int) ∧ (∀ j (h : j < i) (h' : j < ts.length), ts[j] ≠ s) ∧ Below w.heap.size w wr

set_option maxRecDepth 100000 in
set_option maxHeartbeats 2000000 in
theorem lhas_t {w : World} {S : Nat → Prop} {tw : Bool} {v : Value} {ts : List Tx} (h : TextsIn w S tw v ts) (s : Tx) : Calls Tryz.prog 25 #[v, .string (bs s)] w fun e w' => e = .returned (.bool (ts.contains s)) ∧ Below w.heap.size w w' := by
  obtain ⟨a, c, rfl, h1, h2, h3, _, hc⟩ := h
  have HC := Lib.hid hc
  have l0 : (0 : Int) ≤ (ts.length : Int) := by omega
  have l1 : (ts.length : Int) ≤ 140737488351232 := by omega
  clear hc h1 h2 h3
  go_enter Tryz.func25, Tryz.ntmps25
  go_wp2_with fail
  go_loopg [5] ts.length (fun gk v5 wr => HsAt w ts s gk v5 wr)
  case atStart => exact ⟨0, Nat.zero_le _, rfl, rfl, fun j h => absurd h (Nat.not_lt_zero _), Below.refl _ _⟩
  case round =>
    obtain ⟨i, hi, rfl, rfl, hne, hb⟩ := hrel
    have i0 : (0 : Int) ≤ (i : Int) := by omega
    have K := Lib.hid hb
    by_cases hlt : i < ts.length
    · have i1 : (i : Int) < (ts.length : Int) := by omega
      obtain ⟨b, off, e, hS, hcell, _⟩ := HC.out i hlt
      cases e
      have hcell' := (World.cell?_of_block (hb.block b (World.block_lt_of_cell? _ _ hcell))).trans hcell
      obtain ⟨x, hx⟩ : ∃ x, x = ts[i] := ⟨_, rfl⟩
      rw [← hx] at hcell'
      have hq := beq_tx x s
      have HX := Lib.hid (And.intro hlt (And.intro hx hne))
      have HLT := Lib.hid hlt
      clear hb hcell hne
      by_cases he : x = s
      · have HE := Lib.hid he
        clear hx hq
        subst he
        have hT1 : (tx x).toList = x := bsT x
        have hT2 := bsT x
        go_wp2_with fail
        go_ret
        refine ⟨?_, K.out⟩
        have : ts.contains x = true := by simp only [List.contains_iff_mem]; rw [HX.out.2.1]; exact List.getElem_mem _
        have hm : x ∈ ts := by simpa using this
        simp [hm]
      · have HE := Lib.hid he
        have hT1 : (tx x).toList = x := bsT x
        have hT2 := bsT s
        have hb2 : (x == s) = false := beq_eq_false_iff_ne.2 he
        have hb3 : ((tx x).toList == s) = false := by rw [hT1]; exact hb2
        clear hx hq
        go_wp2_with fail
        go_roundg (ts.length - (i + 1))
        case measure => have := HX.out.1; omega
        case rel => exact ⟨i + 1, HX.out.1, rfl, by go_num, fun j h h' => by
          by_cases hj : j = i
          · subst hj; rw [← HX.out.2.1]; exact HE.out
          · exact HX.out.2.2 j (by omega) h', K.out⟩
    · obtain rfl : i = ts.length := by omega
      have HN := Lib.hid hne
      clear hb hne hlt hi
      go_wp2_with fail
      go_ret
      refine ⟨?_, K.out⟩
      have : ts.contains s = false := by
        cases hc : ts.contains s with
        | false => rfl
        | true =>
          simp only [List.contains_iff_mem] at hc
          obtain ⟨j, hj, e⟩ := List.getElem_of_mem hc
          exact absurd e (HN.out j hj hj)
      have hm : ¬ s ∈ ts := fun h => by rw [List.contains_iff_mem.2 h] at this; cases this
      simp [hm]

theorem texts_let {w : World} {b : Nat} (hb : w.heap[b]? = some (.cells #[.string ⟨#[120]⟩, .string ⟨#[121]⟩, .string ⟨#[122]⟩, .string ⟨#[116]⟩] 9 (0, 0))) : TextsIn w (fun _ => True) false (.slice (some ⟨b, 0, none⟩) 4 4) Go.Nd.letters := by
  refine ⟨_, _, rfl, (by decide), (by decide), (by decide), (fun e => by cases e), fun i hi => ⟨b, 0, rfl, trivial, ?_, ?_⟩⟩
  · rw [cell_of_row _ b (0 + i) _ 9 (0, 0) hb]
    have h4 : i < 4 := hi
    match i, h4 with
    | 0, _ => rfl
    | 1, _ => rfl
    | 2, _ => rfl
    | 3, _ => rfl
  · have h4 : i < 4 := hi
    match i, h4 with
    | 0, _ => exact (show (1 : Nat) ≤ 140737488351232 by decide)
    | 1, _ => exact (show (1 : Nat) ≤ 140737488351232 by decide)
    | 2, _ => exact (show (1 : Nat) ≤ 140737488351232 by decide)
    | 3, _ => exact (show (1 : Nat) ≤ 140737488351232 by decide)

def UsAt (w : World) (own : List Tx) (xs : Ns) (gk : Nat) (v5 : Value) (wr : World) : Prop :=
  ∃ i : Nat, i ≤ xs.items.length ∧ gk = xs.items.length - i ∧ v5 = .int .i64 (i : Int) ∧ (xs.items.drop i).all (usedOne own) = usedAll own xs ∧ Below w.heap.size w wr

def UsedSaid (own : List Tx) (xs : Ns) : Prop := ∀ (w : World) (B : Nat) (tw : Bool) (vo v : Value), B ≤ w.heap.size → TextsIn w (· < B) false vo own → Nodes w (· < B) tw v xs →
  Calls Tryz.prog 26 #[vo, v] w fun e w' => e = .returned (.bool (usedAll own xs)) ∧ Below w.heap.size w w'

set_option maxRecDepth 100000 in
set_option maxHeartbeats 16000000 in
theorem used_t (own : List Tx) : ∀ xs, UsedSaid own xs := by
  refine Ns.each fun xs ih w B tw vo v hB hO hv => ?_
  obtain ⟨ao, co, rfl⟩ := hO.form
  obtain ⟨a, c, rfl, hr, hc⟩ := hv.open_
  have HI := Lib.hid ih
  have HC := Lib.hid hc
  have HBB := Lib.hid hB
  have HP := Lib.hid hO
  have l00 : (0 : Int) ≤ (xs.items.length : Int) := by omega
  have l01 : (xs.items.length : Int) ≤ 140737488351232 := by have := hr.2.2.1; omega
  clear ih hv hO hc hr hB
  go_enter Tryz.func26, Tryz.ntmps26
  go_wp2_with fail
  go_loopg [5] xs.items.length (fun gk v5 wr => UsAt w own xs gk v5 wr)
  case atStart => exact ⟨0, Nat.zero_le _, rfl, rfl, by rw [used_items]; rfl, Below.refl _ _⟩
  case round =>
    obtain ⟨i, hi, rfl, rfl, hd, hb⟩ := hrel
    have i0 : (0 : Int) ≤ (i : Int) := by omega
    by_cases hlt : i < xs.items.length
    · have i1 : (i : Int) < (xs.items.length : Int) := by omega
      obtain ⟨b, off, v1, v2, v3, rfl, hS, hN⟩ := HC.out i hlt
      have hN' := hN.frame hS fun k hk _ => hb.block k (Nat.lt_of_lt_of_le hk HBB.out)
      obtain ⟨x, hx⟩ : ∃ x, x = xs.items[i] := ⟨_, rfl⟩
      rw [← hx] at hN'
      have hI := HI.out _ (List.getElem_mem hlt)
      rw [← hx] at hI
      have hdr := items_cons_drop xs i hlt
      rw [← hx] at hdr
      obtain ⟨kd, tt, xl, xb, xe⟩ := x
      have d0 := hN'.d0
      have d1 := hN'.d1
      have d2 := hN'.d2
      have d3 := hN'.d3
      have d4 := hN'.d4
      have ht := hN'.text
      have hk8 := hN'.kind
      obtain ⟨a1, c1, rfl, s1, m1⟩ := hN'.l
      obtain ⟨a2, c2, rfl, s2, m2⟩ := hN'.body
      obtain ⟨a3, c3, rfl, s3, m3⟩ := hN'.els
      simp only at d0 d1 d2 d3 d4 ht hk8
      have etx : tx tt = bs tt := rfl
      rw [etx] at d1
      have hs := bs_tl tt
      have hBr : B ≤ wr.heap.size := Nat.le_trans HBB.out hb.size
      have n1 : Nodes wr (· < B) tw (.slice a1 xl.len c1) xl := ⟨a1, c1, rfl, s1, m1⟩
      have n2 : Nodes wr (· < B) tw (.slice a2 xb.len c2) xb := ⟨a2, c2, rfl, s2, m2⟩
      have n3 : Nodes wr (· < B) tw (.slice a3 xe.len c3) xe := ⟨a3, c3, rfl, s3, m3⟩
      have hA := Below.alloc (Below.refl wr.heap.size wr) (Nat.le_refl _) (.cells #[.int .u8 (kd : Int), .string (bs tt), .slice a1 xl.len c1, .slice a2 xb.len c2, .slice a3 xe.len c3] 61)
      obtain ⟨bx, hbx⟩ : ∃ bx, bx = wr.heap.size := ⟨_, rfl⟩
      obtain ⟨w4, hw4⟩ : ∃ w4, w4 = wr.alloc (.cells #[.int .u8 (kd : Int), .string (bs tt), .slice a1 xl.len c1, .slice a2 xb.len c2, .slice a3 xe.len c3] 61) := ⟨_, rfl⟩
      have hbox : ∀ w1, Below w4.heap.size w4 w1 → w1.cell? ⟨bx, 0, none⟩ = some (.int .u8 (kd : Int)) ∧ w1.cell? ⟨bx, 1, none⟩ = some (.string (bs tt)) ∧ w1.cell? ⟨bx, 2, none⟩ = some (.slice a1 xl.len c1) ∧ w1.cell? ⟨bx, 3, none⟩ = some (.slice a2 xb.len c2) ∧ w1.cell? ⟨bx, 4, none⟩ = some (.slice a3 xe.len c3) := by
        intro w1 hb1
        rw [hw4] at hb1
        rw [hbx]
        have q0 := box_later hb1 0
        have q1 := box_later hb1 1
        have q2 := box_later hb1 2
        have q3 := box_later hb1 3
        have q4 := box_later hb1 4
        simp at q0 q1 q2 q3 q4
        exact ⟨q0, q1, q2, q3, q4⟩
      have hAB := hA.mono hBr
      rw [← hw4] at hA hAB
      have HX := Lib.hid hbox
      have K4 := Lib.hid (hb.trans (hA.mono hb.size))
      have N1 := Lib.hid (n1.below hAB)
      have N2 := Lib.hid (n2.below hAB)
      have N3 := Lib.hid (n3.below hAB)
      have HI2 := Lib.hid hI
      have HD := Lib.hid (hdr ▸ hd)
      have HBr := Lib.hid (Nat.le_trans hBr hA.size)
      have HT := Lib.hid (show tt.length ≤ 9223372036854775807 by omega)
      have k0 : (0 : Int) ≤ (kd : Int) := by omega
      have k1 : (kd : Int) < 256 := by omega
      have l0 : (0 : Int) ≤ (xl.len : Int) := by omega
      have b0 : (0 : Int) ≤ (xb.len : Int) := by omega
      have e0 : (0 : Int) ≤ (xe.len : Int) := by omega
      clear hN hN' s1 s2 s3 m1 m2 m3 n1 n2 n3 hA hAB hbox hb hd hx hdr hI hS ht hk8 etx hBr
      have HLT := Lib.hid hlt
      clear hlt hi
      go_upto_region 5 with fail
      rw [← hw4, ← hbx]
      clear hw4 hbx
      have FIN := Lib.hid (fun (wz : World) (hone : usedOne own ⟨kd, tt, xl, xb, xe⟩ = false) (hz : Below w4.heap.size w4 wz) => show Ending.returned (.bool false) = Ending.returned (.bool (usedAll own xs)) ∧ Below w.heap.size w wz from by
        have hd := HD.out
        rw [List.all_cons, hone, Bool.false_and] at hd
        exact ⟨by rw [← hd], K4.out.trans (hz.mono K4.out.size)⟩)
      have UP := Lib.hid (fun (wz : World) (hz : Below w4.heap.size w4 wz) => show B ≤ wz.heap.size ∧ TextsIn wz (· < B) false (.slice ao own.length co) own ∧ Below w.heap.size w wz from by
        have h := K4.out.trans (hz.mono K4.out.size)
        exact ⟨Nat.le_trans HBB.out h.size, HP.out.below (h.mono HBB.out), h⟩)
      obtain ⟨kx, hkx⟩ : ∃ kx, kx = usedX own ⟨kd, tt, xl, xb, xe⟩ := ⟨_, rfl⟩
      have HKX := Lib.hid hkx
      clear hkx
      go_cut [45] from 7 to 64 (fun v45 wx => v45 = .bool (!kx) ∧ Below w4.heap.size w4 wx)
      case first =>
        obtain ⟨e0, e1, e2, e3, e4⟩ := HX.out w4 (Below.refl _ _)
        clear e2 e3 e4
        have HAL := Lib.hid (fun (W : World) (h : Below w4.heap.size w4 W) => show Below w4.heap.size w4 (W.alloc (.cells #[.string ⟨#[120]⟩, .string ⟨#[121]⟩, .string ⟨#[122]⟩, .string ⟨#[116]⟩] 9)) ∧ TextsIn (W.alloc (.cells #[.string ⟨#[120]⟩, .string ⟨#[121]⟩, .string ⟨#[122]⟩, .string ⟨#[116]⟩] 9)) (fun _ => True) false (.slice (some ⟨W.heap.size, 0, none⟩) 4 4) Go.Nd.letters from
          ⟨h.trans ((Below.alloc (Below.refl W.heap.size W) (Nat.le_refl _) (.cells #[.string ⟨#[120]⟩, .string ⟨#[121]⟩, .string ⟨#[122]⟩, .string ⟨#[116]⟩] 9)).mono h.size), texts_let (heap_alloc_new W _)⟩)
        by_cases h2 : kd = 2
        · have h2' : (kd : Int) = 2 := by omega
          have HK2 := Lib.hid (show kx = (own.contains tt || Go.Nd.letters.contains tt) from by rw [HKX.out]; unfold usedX; simp only [h2]; cases Go.Nd.letters.contains tt <;> cases own.contains tt <;> rfl)
          clear h2
          go_wp2_with fail
          refine (lhas_t (UP.out w4 (Below.refl _ _)).2.1 tt).mono ?_
          rintro e w5 ⟨rfl, hb5⟩
          have H5 := Lib.hid hb5
          clear e0 e1
          cases hl : own.contains tt with
          | true =>
            have HL := Lib.hid hl
            obtain ⟨e0', e1', _, _, _⟩ := HX.out _ hb5
            clear hl hb5
            go_wp2_with fail
            go_meet
            case rel => exact ⟨by rw [HK2.out, HL.out]; rfl, H5.out⟩
          | false =>
            have HL := Lib.hid hl
            obtain ⟨e0', e1', _, _, _⟩ := HX.out _ (HAL.out w5 hb5).1
            clear hl hb5
            go_wp2_with fail
            refine (lhas_t (HAL.out w5 H5.out).2 tt).mono ?_
            rintro e w6 ⟨rfl, hb6⟩
            have H6 := Lib.hid ((HAL.out w5 H5.out).1.trans (hb6.mono (HAL.out w5 H5.out).1.size))
            obtain ⟨e0, _, _, _, _⟩ := HX.out w6 H6.out
            clear hb6 e0' e1'
            cases hi2 : Go.Nd.letters.contains tt with
            | true =>
              have HI3 := Lib.hid hi2
              clear hi2
              go_wp2_with fail
              go_meet
              case rel => exact ⟨by rw [HK2.out, HL.out, HI3.out]; rfl, H6.out⟩
            | false =>
              have HI3 := Lib.hid hi2
              clear hi2
              go_wp2_with fail
              go_meet
              case rel => exact ⟨by rw [HK2.out, HL.out, HI3.out]; rfl, H6.out⟩
        · by_cases h8 : kd = 8
          · have h8' : (kd : Int) = 8 := by omega
            have HK2 := Lib.hid (show kx = own.contains tt from by rw [HKX.out]; unfold usedX; simp only [h8]; cases own.contains tt <;> rfl)
            clear h2 h8
            go_wp2_with fail
            refine (lhas_t (UP.out w4 (Below.refl _ _)).2.1 tt).mono ?_
            rintro e w5 ⟨rfl, hb5⟩
            have H5 := Lib.hid hb5
            clear hb5 e0 e1
            rw [← HK2.out]
            go_wp2_with fail
            go_meet
            case rel => exact ⟨by cases kx <;> rfl, H5.out⟩
          · have h2' : ((kd : Int) == 2) = false := by rw [beq_eq_false_iff_ne]; omega
            have h8' : ((kd : Int) == 8) = false := by rw [beq_eq_false_iff_ne]; omega
            have HK2 := Lib.hid (show kx = true from by rw [HKX.out]; unfold usedX; simp [h2, h8])
            clear h2 h8
            go_wp2_with fail
            go_meet
            case rel => exact ⟨by rw [HK2.out]; rfl, Below.refl _ _⟩
      case rest =>
        obtain ⟨rfl, hbc⟩ := hcut
        have HC2 := Lib.hid hbc
        clear hbc
        cases kx with
        | false =>
          go_wp2_with fail
          go_ret
          exact FIN.out _ (by unfold usedOne; rw [← HKX.out]; rfl) HC2.out
        | true =>
          obtain ⟨_, _, e2, _, _⟩ := HX.out wc HC2.out
          go_wp2_with fail
          refine (HI2.out.1 wc B tw _ _ (UP.out wc HC2.out).1 (UP.out wc HC2.out).2.1 (N1.out.below (HC2.out.mono HBr.out))).mono ?_
          rintro e w5 ⟨rfl, hb5⟩
          have H5 := Lib.hid (HC2.out.trans (hb5.mono HC2.out.size))
          obtain ⟨_, _, _, e3, _⟩ := HX.out w5 H5.out
          clear hb5 e2
          cases hk1 : usedAll own xl with
          | false =>
            have HK1 := Lib.hid hk1
            clear hk1
            go_wp2_with fail
            go_ret
            exact FIN.out _ (by unfold usedOne; rw [← HKX.out, HK1.out]; rfl) H5.out
          | true =>
            have HK1 := Lib.hid hk1
            clear hk1
            go_wp2_with fail
            refine (HI2.out.2.1 w5 B tw _ _ (UP.out w5 H5.out).1 (UP.out w5 H5.out).2.1 (N2.out.below (H5.out.mono HBr.out))).mono ?_
            rintro e w6 ⟨rfl, hb6⟩
            have H6 := Lib.hid (H5.out.trans (hb6.mono H5.out.size))
            obtain ⟨_, _, _, _, e4⟩ := HX.out w6 H6.out
            clear hb6 e3
            cases hk2 : usedAll own xb with
            | false =>
              have HK2 := Lib.hid hk2
              clear hk2
              go_wp2_with fail
              go_ret
              exact FIN.out _ (by unfold usedOne; rw [← HKX.out, HK1.out, HK2.out]; rfl) H6.out
            | true =>
              have HK2 := Lib.hid hk2
              clear hk2
              go_wp2_with fail
              refine (HI2.out.2.2 w6 B tw _ _ (UP.out w6 H6.out).1 (UP.out w6 H6.out).2.1 (N3.out.below (H6.out.mono HBr.out))).mono ?_
              rintro e w7 ⟨rfl, hb7⟩
              have H7 := Lib.hid (H6.out.trans (hb7.mono H6.out.size))
              clear hb7 e4
              cases hk3 : usedAll own xe with
              | false =>
                have HK3 := Lib.hid hk3
                clear hk3
                go_wp2_with fail
                go_ret
                exact FIN.out _ (by unfold usedOne; rw [← HKX.out, HK1.out, HK2.out, HK3.out]; rfl) H7.out
              | true =>
                have HK3 := Lib.hid hk3
                clear hk3
                have HNX := Lib.hid (show (xs.items.drop (i + 1)).all (usedOne own) = usedAll own xs from by
                  have hd := HD.out
                  rw [List.all_cons, show usedOne own ⟨kd, tt, xl, xb, xe⟩ = true from by unfold usedOne; rw [← HKX.out, HK1.out, HK2.out, HK3.out]; rfl, Bool.true_and] at hd
                  exact hd)
                go_wp2_with fail
                go_roundg (xs.items.length - (i + 1))
                case measure => have := HLT.out; omega
                case rel => exact ⟨i + 1, HLT.out, rfl, by go_num, HNX.out, (UP.out w7 H7.out).2.2⟩
    · obtain rfl : i = xs.items.length := by omega
      rw [List.drop_length] at hd
      have HD := Lib.hid (show usedAll own xs = true from hd.symm)
      clear hlt hi hd
      go_wp2_with fail
      go_ret
      exact ⟨by rw [HD.out]; rfl, hb⟩
end Go.Proofs.YtmkhfonafcikdaaGreatDoor
