/- The document's scopes: names that statements set. -/
import Derived.Test.YtmkhfonafcikdaaGreatDoorScTxV
import Derived.Test.YtmkhfonafcikdaaGreatDoorScRefV
import Derived.Test.YtmkhfonafcikdaaGreatDoorScLetsV
import Derived.Test.YtmkhfonafcikdaaGreatDoorTrC2
namespace Go.Nd
/-- .. from a place on. -/
def letsL (names : List Tx) : List Nd → List Tx
  | [] => names
  | x :: r => letsL (letsR (letsR (if x.kind = 8 then addN names x.text else names) x.body) x.els) r
theorem letsR_items (xs : Ns) : ∀ names, letsR names xs = letsL names xs.items := by
  induction xs with
  | nil => intro _; rfl
  | cons k t l b e r _ _ _ ih => intro names; show letsR _ r = letsL _ r.items; rw [ih]
/-- Many, at most so many more. -/
theorem letsR_len (xs : Ns) : ∀ names, (letsR names xs).length ≤ names.length + xs.flat.length := by
  induction xs with
  | nil => intro names; exact Nat.le_add_right _ _
  | cons k t l b e r _ ihb ihe ihr =>
    intro names
    show (letsR (letsR (letsR (if k = 8 then addN names t else names) b) e) r).length ≤ names.length + (_ :: (l.flat ++ (b.flat ++ (e.flat ++ r.flat)))).length
    have h1 : (if k = 8 then addN names t else names).length ≤ names.length + 1 := by
      split
      · unfold addN; split
        · omega
        · simp
      · omega
    have h2 := ihb (if k = 8 then addN names t else names)
    have h3 := ihe (letsR (if k = 8 then addN names t else names) b)
    have h4 := ihr (letsR (letsR (if k = 8 then addN names t else names) b) e)
    simp only [List.length_cons, List.length_append]
    omega
end Go.Nd
namespace Go.Proofs.YtmkhfonafcikdaaGreatDoor
open Go.RowKit Go.My Go.Nd

/-- The list of names, owned by 750; what stood before. -/
structure NlAt (w0 W : World) (g : Tags) (v : Value) (cur : List Tx) : Prop where
  since : Since w0 W g
  own : Owns W g 750 9 1 v cur.length (strCells cur)
  short : ∀ s ∈ cur, s.length ≤ 140737488351232

def RLetsSaid (w0 : World) (B : Nat) (tw : Bool) (xs : Ns) : Prop := ∀ (w : World) (g : Tags) (vl v : Value) (cur : List Tx), NlAt w0 w g vl cur → Nodes w0 (· < B) tw v xs → cur.length + xs.flat.length ≤ 2000000 →
  ∀ Q : Ending → World → Prop, (∀ v' w' g', NlAt w0 w' g' v' (letsR cur xs) → Q (.returned v') w') → Calls Tryz.prog 48 #[vl, v] w Q
theorem NlAt.turn {w0 W W' : World} {g g' : Tags} {v : Value} {cur : List Tx} {T : List Nat} (h : NlAt w0 W g v cur) (T' : Turn W g W' g' T) (h0 : 0 ∉ T) (h1 : 750 ∉ T) : NlAt w0 W' g' v cur := ⟨h.since.turn T' h0, h.own.turn T' h1, h.short⟩
def RlAt (w0 : World) (all : List Tx) (items : List Nd) (gk : Nat) (v0 v5 : Value) (wr : World) : Prop :=
  ∃ (i : Nat) (g : Tags) (cur : List Tx), i ≤ items.length ∧ gk = items.length - i ∧ v5 = .int .i64 (i : Int) ∧ NlAt w0 wr g v0 cur ∧ letsL cur (items.drop i) = all ∧ cur.length + (flatL (items.drop i)).length ≤ 2000000
theorem strElR : Elem Tryz.prog 32 9 1 16 (.string ⟨#[]⟩) := Elem.mk' Tryz.underlying32 (by kernel_rfl) rfl (by decide)


set_option maxRecDepth 100000 in
set_option maxHeartbeats 4000000 in
theorem rlets_t {w0 : World} {B : Nat} {tw : Bool} (hB : B ≤ w0.heap.size) : ∀ xs, RLetsSaid w0 B tw xs := by
  refine Ns.each fun xs ih w g vl v cur hN hv hm Q hQ => ?_
  obtain ⟨a, c, rfl, hr, hc⟩ := hv.open_
  obtain ⟨a0, c0, rfl⟩ := hN.own.form
  have HB := Lib.hid hB
  have HI := Lib.hid ih
  have HC := Lib.hid hc
  have HQ := Lib.hid hQ
  rw [flat_items] at hm
  have HS := Lib.hid (show RlAt w0 (letsR cur xs) xs.items xs.items.length (.slice a0 cur.length c0) (.int .i64 0) w from ⟨0, g, cur, Nat.zero_le _, rfl, rfl, hN, (letsR_items xs cur).symm, hm⟩)
  have l0 : (0 : Int) ≤ (xs.items.length : Int) := by omega
  have l1 : (xs.items.length : Int) ≤ 140737488351232 := by have := hr.2.2.1; omega
  clear ih hv hc hr hQ hN hm hB
  go_enter Tryz.func48, Tryz.ntmps48
  go_wp2_with fail
  go_loopg [0, 5] xs.items.length (fun gk v0 v5 wr => RlAt w0 (letsR cur xs) xs.items gk v0 v5 wr)
  case atStart => exact HS.out
  case round =>
    obtain ⟨i, gr, nm, hi, rfl, rfl, hN, hL, hn⟩ := hrel
    have i0 : (0 : Int) ≤ (i : Int) := by omega
    obtain ⟨a5, c5, rfl⟩ := hN.own.form
    by_cases hlt : i < xs.items.length
    · have i1 : (i : Int) < (xs.items.length : Int) := by omega
      rw [List.drop_eq_getElem_cons hlt] at hL hn
      obtain ⟨b, off, v1, v2, v3, rfl, hS, hNd⟩ := HC.out i hlt
      have hbw := hN.since.below
      have up : ∀ o u, w0.cell? ⟨b, o, none⟩ = some u → wr.cell? ⟨b, o, none⟩ = some u := fun o u h => (World.cell?_of_block (hbw.block b (Nat.lt_of_lt_of_le hS HB.out))).trans h
      have hI := HI.out _ (List.getElem_mem hlt)
      obtain ⟨x, hx⟩ : ∃ x, x = xs.items[i] := ⟨_, rfl⟩
      rw [← hx] at hNd hI hL hn
      have HM := Lib.hid (And.intro hNd.body hNd.els)
      have hm2 := hNd.body
      have hm3 := hNd.els
      obtain ⟨e2, f2, rfl, _, _⟩ := hm2
      obtain ⟨e3, f3, rfl, _, _⟩ := hm3
      have D := Lib.hid (And.intro hNd.d3 hNd.d4)
      have d0 := up _ _ hNd.d0
      have d1 := up _ _ hNd.d1
      have d2 := up _ _ hNd.d3
      have d3 := up _ _ hNd.d4
      have htx := hNd.text
      have HI2 := Lib.hid hI
      have k0 : (0 : Int) ≤ (x.kind : Int) := by omega
      have hL' : letsL (letsR (letsR (if x.kind = 8 then addN nm x.text else nm) x.body) x.els) (xs.items.drop (i + 1)) = letsR cur xs := hL
      have hn' : nm.length + (1 + (x.l.flat.length + (x.body.flat.length + (x.els.flat.length + (flatL (xs.items.drop (i + 1))).length)))) ≤ 2000000 := by
        have e : (flatL (x :: xs.items.drop (i + 1))).length = 1 + (x.l.flat.length + (x.body.flat.length + (x.els.flat.length + (flatL (xs.items.drop (i + 1))).length))) := by
          show (x :: (_ ++ (_ ++ (_ ++ _)))).length = _
          simp only [List.length_cons, List.length_append]; omega
        rw [e] at hn
        exact hn
      have HX := Lib.hid (And.intro hlt (And.intro hL' hn'))
      have HTX := Lib.hid htx
      have NN := Lib.hid hN
      clear hx hL hn hL' hn' hI hNd up hbw htx hi hlt
      by_cases h8 : x.kind = 8
      · have h8' : (x.kind : Int) = 8 := by omega
        have hnm : nm.length ≤ 2000000 := by have := HX.out.2.2; omega
        have q4 := HX.out.2.1
        rw [if_pos h8] at q4
        have HQ4 := Lib.hid q4
        clear h8 hN q4
        go_wp2_with fail
        refine (rin_t (texts_of_owns NN.out.own NN.out.short (by omega)) x.text).mono ?_
        rintro e w1 ⟨rfl, hb1⟩
        have T1 := Turn.of_below hb1 gr 751
        have N1 := NN.out.turn T1 (by simp) (by simp)
        obtain ⟨g1, hg1⟩ : ∃ g1, g1 = gr.ext wr.heap.size 751 := ⟨_, rfl⟩
        rw [← hg1] at N1
        have U1 := Lib.hid (fun (W : World) (hW : Below w0.heap.size w0 W) (o : Nat) (u : Value) (h : w0.cell? ⟨b, o, none⟩ = some u) => (World.cell?_of_block (hW.block b (Nat.lt_of_lt_of_le hS HB.out))).trans h)
        have d2 := U1.out w1 N1.since.below _ _ D.out.1
        have d3 := U1.out w1 N1.since.below _ _ D.out.2
        have d1' := World.cell?_of_block (a := ⟨b, off + i * 5 + 1, none⟩) (hb1.block b (World.block_lt_of_cell? _ _ d0))
        have d1 := d1'.trans d1
        have NN1 := Lib.hid N1
        clear N1 T1 hb1 hg1 d1' d0
        by_cases hin : x.text ∈ nm
        · rw [List.contains_iff_mem.2 hin]
          have hadd : addN nm x.text = nm := by unfold addN; rw [List.contains_iff_mem.2 hin]; rfl
          have HK := Lib.hid (show nm.length + x.body.flat.length ≤ 2000000 ∧ (letsR nm x.body).length + x.els.flat.length ≤ 2000000 ∧ letsL (letsR (letsR nm x.body) x.els) (xs.items.drop (i + 1)) = letsR cur xs ∧ (letsR (letsR nm x.body) x.els).length + (flatL (xs.items.drop (i + 1))).length ≤ 2000000 from by
            have q1 := HX.out.2.2
            have q2 := letsR_len x.body nm
            have q3 := letsR_len x.els (letsR nm x.body)
            have q4 := HQ4.out
            rw [hadd] at q4
            exact ⟨by omega, by omega, q4, by omega⟩)
          have NL := NN1
          clear hin hadd d1
          go_wp2_with fail
          -- the two lists within: NL says how the names stand, nm what they are
          refine (HI2.out.2.1) _ _ _ _ _ NL.out HM.out.1 HK.out.1 _ fun v' w' g' hN1 => ?_
          obtain ⟨a7, c7, rfl⟩ := hN1.own.form
          have NL1 := Lib.hid hN1
          have hb1 := hN1.since.below
          have d2 := (World.cell?_of_block (hb1.block b (Nat.lt_of_lt_of_le hS HB.out))).trans D.out.1
          have d3 := (World.cell?_of_block (hb1.block b (Nat.lt_of_lt_of_le hS HB.out))).trans D.out.2
          clear hN1 hb1
          go_wp2_with fail
          refine (HI2.out.2.2) _ _ _ _ _ NL1.out HM.out.2 HK.out.2.1 _ fun v' w' g' hN2 => ?_
          obtain ⟨a8, c8, rfl⟩ := hN2.own.form
          have NL2 := Lib.hid hN2
          clear hN2 d2 d3
          go_wp2_with fail
          go_roundg (xs.items.length - (i + 1))
          case measure => have := HX.out.1; omega
          case rel => exact ⟨i + 1, g', _, HX.out.1, rfl, by go_num, NL2.out, HK.out.2.2.1, HK.out.2.2.2⟩
        · rw [show nm.contains x.text = false by cases hcc : nm.contains x.text with | false => rfl | true => exact absurd (List.contains_iff_mem.1 hcc) hin]
          have hadd : addN nm x.text = nm ++ [x.text] := by unfold addN; rw [show nm.contains x.text = false by cases hcc : nm.contains x.text with | false => rfl | true => exact absurd (List.contains_iff_mem.1 hcc) hin]; rfl
          have HK := Lib.hid (show (nm ++ [x.text]).length + x.body.flat.length ≤ 2000000 ∧ (letsR (nm ++ [x.text]) x.body).length + x.els.flat.length ≤ 2000000 ∧ letsL (letsR (letsR (nm ++ [x.text]) x.body) x.els) (xs.items.drop (i + 1)) = letsR cur xs ∧ (letsR (letsR (nm ++ [x.text]) x.body) x.els).length + (flatL (xs.items.drop (i + 1))).length ≤ 2000000 from by
            have q1 := HX.out.2.2
            have q2 := letsR_len x.body (nm ++ [x.text])
            have q3 := letsR_len x.els (letsR (nm ++ [x.text]) x.body)
            have q4 := HQ4.out
            rw [hadd] at q4
            simp only [List.length_append, List.length_cons, List.length_nil] at q2 ⊢
            exact ⟨by omega, by omega, q4, by omega⟩)
          clear hin hadd
          go_wp2_with (refine wpList_append_t _ rfl (.tmp 28) (.tmp 34) rfl strElR (g := g1.ext w1.heap.size 752) (tg := 750) (v := .slice a5 nm.length c5) (n := nm.length) (xs := strCells nm) rfl (NN1.out.own.turn (Turn.alloc w1 g1 752 (.cells #[.string (tx x.text)] 9)) (by simp)) (y := .slice (some ⟨w1.heap.size, 0, none⟩) 1 1) rfl (Src.lit (n := 1) #[.string (tx x.text)] 9 rfl rfl) (by simp [Value.oneCell']) (by unfold maxLen; omega) (by omega) ?_; intro ao cap w4 g4 L4 T4; have T24 := (Turn.alloc w1 g1 752 (.cells #[.string (tx x.text)] 9)).trans T4 (V := [750]) (by simp) (by simp); have S4 := NN1.out.since.turn T24 (by simp); have d2 := U1.out w4 S4.below _ _ D.out.1; have d3 := U1.out w4 S4.below _ _ D.out.2; have X4 := Lib.hid (And.intro L4 S4); clear L4 T4 T24 S4 d1)
          have NL := Lib.hid (show NlAt w0 w4 g4 (.slice ao (nm.length + 1) cap) (nm ++ [x.text]) from ⟨X4.out.2, by
            have e : strCells (nm ++ [x.text]) = strCells nm ++ [.string (tx x.text)] := by unfold strCells; rw [List.map_append]; rfl
            rw [e, List.length_append]
            exact X4.out.1, fun s hs => by
            rcases List.mem_append.1 hs with hs | hs
            · exact NN1.out.short s hs
            · simp only [List.mem_cons, List.not_mem_nil, or_false] at hs; subst hs; exact HTX.out⟩)
          -- the two lists within: NL says how the names stand, nm what they are
          refine (HI2.out.2.1) _ _ _ _ _ NL.out HM.out.1 HK.out.1 _ fun v' w' g' hN1 => ?_
          obtain ⟨a7, c7, rfl⟩ := hN1.own.form
          have NL1 := Lib.hid hN1
          have hb1 := hN1.since.below
          have d2 := (World.cell?_of_block (hb1.block b (Nat.lt_of_lt_of_le hS HB.out))).trans D.out.1
          have d3 := (World.cell?_of_block (hb1.block b (Nat.lt_of_lt_of_le hS HB.out))).trans D.out.2
          clear hN1 hb1
          go_wp2_with fail
          refine (HI2.out.2.2) _ _ _ _ _ NL1.out HM.out.2 HK.out.2.1 _ fun v' w' g' hN2 => ?_
          obtain ⟨a8, c8, rfl⟩ := hN2.own.form
          have NL2 := Lib.hid hN2
          clear hN2 d2 d3
          go_wp2_with fail
          go_roundg (xs.items.length - (i + 1))
          case measure => have := HX.out.1; omega
          case rel => exact ⟨i + 1, g', _, HX.out.1, rfl, by go_num, NL2.out, HK.out.2.2.1, HK.out.2.2.2⟩
      · have HK := Lib.hid (show nm.length + x.body.flat.length ≤ 2000000 ∧ (letsR nm x.body).length + x.els.flat.length ≤ 2000000 ∧ letsL (letsR (letsR nm x.body) x.els) (xs.items.drop (i + 1)) = letsR cur xs ∧ (letsR (letsR nm x.body) x.els).length + (flatL (xs.items.drop (i + 1))).length ≤ 2000000 from by
          have q1 := HX.out.2.2
          have q2 := letsR_len x.body nm
          have q3 := letsR_len x.els (letsR nm x.body)
          have q4 := HX.out.2.1
          rw [if_neg h8] at q4
          exact ⟨by omega, by omega, q4, by omega⟩)
        have h8' : ((x.kind : Int) == 8) = false := by rw [beq_eq_false_iff_ne]; omega
        have NL := NN
        clear h8 hN
        go_wp2_with fail
        -- the two lists within: NL says how the names stand, nm what they are
        refine (HI2.out.2.1) _ _ _ _ _ NL.out HM.out.1 HK.out.1 _ fun v' w' g' hN1 => ?_
        obtain ⟨a7, c7, rfl⟩ := hN1.own.form
        have NL1 := Lib.hid hN1
        have hb1 := hN1.since.below
        have d2 := (World.cell?_of_block (hb1.block b (Nat.lt_of_lt_of_le hS HB.out))).trans D.out.1
        have d3 := (World.cell?_of_block (hb1.block b (Nat.lt_of_lt_of_le hS HB.out))).trans D.out.2
        clear hN1 hb1
        go_wp2_with fail
        refine (HI2.out.2.2) _ _ _ _ _ NL1.out HM.out.2 HK.out.2.1 _ fun v' w' g' hN2 => ?_
        obtain ⟨a8, c8, rfl⟩ := hN2.own.form
        have NL2 := Lib.hid hN2
        clear hN2 d2 d3
        go_wp2_with fail
        go_roundg (xs.items.length - (i + 1))
        case measure => have := HX.out.1; omega
        case rel => exact ⟨i + 1, g', _, HX.out.1, rfl, by go_num, NL2.out, HK.out.2.2.1, HK.out.2.2.2⟩
    · obtain rfl : i = xs.items.length := by omega
      rw [List.drop_length] at hL
      have HL := Lib.hid (show nm = letsR cur xs from hL)
      have NN := Lib.hid hN
      clear hlt hi hL hn hN
      go_wp2_with fail
      exact HQ.out _ _ gr (by rw [← HL.out]; exact NN.out)
end Go.Proofs.YtmkhfonafcikdaaGreatDoor
