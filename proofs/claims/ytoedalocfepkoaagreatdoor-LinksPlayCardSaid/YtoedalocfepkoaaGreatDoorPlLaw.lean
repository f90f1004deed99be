/- Links: the walk of LinksPlay. -/
import Derived.Test.YtoedalocfepkoaaGreatDoorLpRef4
import Derived.Test.YtoedalocfepkoaaGreatDoorLpAdd
import Derived.Test.YtoedalocfepkoaaGreatDoorPlPlain
import Derived.Test.YtoedalocfepkoaaGreatDoorPlMem
import Derived.Test.YtoedalocfepkoaaGreatDoorTwin
namespace Go.Proofs.YtoedalocfepkoaaGreatDoor
open Go.RowKit Go.My

def T0 : Nat := 10000000000

/-- great: if it says no, there are few acts, and none is long. -/
def GreatAt (w : World) (al : List (Nat × List UInt8)) (gk : Nat) (v3 v4 : Value) (wr : World) : Prop :=
  ∃ (i n : Nat), i ≤ al.length ∧ gk = al.length - i ∧ v3 = .int .i64 (n : Int) ∧ v4 = .int .i64 (i : Int) ∧ n ≤ 300000 ∧ (∀ j (hj : j < al.length), j < i → (al[j]).2.length ≤ 300000) ∧ wr = w

set_option maxRecDepth 100000 in
set_option maxHeartbeats 4000000 in
theorem great_t {w : World} {g : Tags} {t : Nat} {v : Value} {al : List (Nat × List UInt8)} (hv : Acts w g t v al) {Q : Ending → World → Prop}
    (h1 : Q (.returned (.bool true)) w) (h2 : al.length ≤ 200 → (∀ j (hj : j < al.length), (al[j]).2.length ≤ 300000) → Q (.returned (.bool false)) w) : Calls Tryz.prog 4 #[v] w Q := by
  obtain ⟨ao, cap, rfl, hc1, hc2, hc⟩ := hv
  have H1 := Lib.hid h1
  have H2 := Lib.hid h2
  have HC := Lib.hid hc
  have l0 : (0 : Int) ≤ (al.length : Int) := by omega
  have l1 : (al.length : Int) ≤ 9223372036854775807 := by unfold maxLen at hc2; omega
  clear h1 h2 hc hc1 hc2
  go_enter Tryz.func4, Tryz.ntmps4
  go_wp2_with fail
  go_loopg [3, 4] al.length (fun gk v3 v4 wr => GreatAt w al gk v3 v4 wr)
  case atStart => exact ⟨0, 0, Nat.zero_le _, rfl, rfl, rfl, by decide, fun j _ hj => absurd hj (Nat.not_lt_zero _), rfl⟩
  case round =>
    obtain ⟨i, n, hi, rfl, rfl, rfl, hn, hb, hw⟩ := hrel
    have i0 : (0 : Int) ≤ (i : Int) := by omega
    have n0 : (0 : Int) ≤ (n : Int) := by omega
    have n1 : (n : Int) ≤ 300000 := by omega
    have HB := Lib.hid hb
    obtain rfl : w = wr := hw.symm
    clear hb hw
    by_cases hlt : i < al.length
    · have i1 : (i : Int) < (al.length : Int) := by omega
      obtain ⟨b, off, u, rfl, _, _, d1, hu, _, hsm⟩ := HC.out i hlt
      obtain ⟨ua, uc, rfl⟩ := bytes_form hu
      obtain ⟨m, hm⟩ : ∃ m, m = (al[i]).2.length := ⟨_, rfl⟩
      rw [← hm] at d1 hsm
      have HM := Lib.hid hm
      have m0 : (0 : Int) ≤ (m : Int) := by omega
      have m1 : (m : Int) ≤ 140737488351232 := by omega
      clear hu hm
      by_cases hg : 300000 < n + 1 + m
      · have hg1 : (300000 : Int) < (n : Int) + 1 + (m : Int) := by omega
        clear hg
        go_wp2_with fail
        exact H1.out
      · have hg1 : (n : Int) + 1 + (m : Int) ≤ 300000 := by omega
        have HG := Lib.hid hg
        clear hg
        go_wp2_with fail
        go_roundg (al.length - (i + 1))
        case measure => omega
        case rel =>
          refine ⟨i + 1, n + 1 + m, hlt, rfl, by go_num, by go_num, by have := HG.out; omega, fun j hj hji => ?_, rfl⟩
          rcases Nat.lt_or_ge j i with h | h
          · exact HB.out j hj h
          · obtain rfl : j = i := by omega
            rw [← HM.out]; have := HG.out; omega
    · have hie : i = al.length := by omega
      have HBB := Lib.hid (show ∀ j (hj : j < al.length), (al[j]).2.length ≤ 300000 from fun j hj => HB.out j hj (by omega))
      have i1 : (al.length : Int) ≤ (i : Int) := by omega
      by_cases h2 : 200 < al.length
      · have h3 : (200 : Int) < (al.length : Int) := by omega
        clear hlt hie h2
        go_wp2_with fail
        exact H1.out
      · have h3 : (al.length : Int) ≤ 200 := by omega
        have h4 : decide ((200 : Int) < (al.length : Int)) = false := by simp; omega
        have HL := Lib.hid (show al.length ≤ 200 by omega)
        clear hlt hie h2
        go_wp2_with fail
        exact H2.out HL.out HBB.out

/-- At the head of a round. -/
structure PlAt (w : World) (lv : Value) (al : List (Nat × List UInt8)) (eb mb bp i : Nat) (wr : World) (g : Tags) (s : Li.St) (m : Nat) : Prop where
  since : Since w wr g
  args : Acts wr g 0 lv al
  en : EndIs wr g T0 eb s i
  rf : RefIs wr g mb s i
  kept : Kept wr g bp m
  few : m ≤ 18 * i

theorem PlAt.turn {w : World} {lv : Value} {al : List (Nat × List UInt8)} {eb mb bp i : Nat} {wr w' : World} {g g' : Tags} {s : Li.St} {m : Nat} (h : PlAt w lv al eb mb bp i wr g s m) {T : List Nat} (k : Turn wr g w' g' T)
    (hT : ∀ t ∈ T, t ≠ 0 ∧ t < T0 ∧ (t < 740 ∨ 745 < t) ∧ t ≠ 801 ∧ t ≠ 802 ∧ (t < 1000 ∨ entTag m ≤ t)) : PlAt w lv al eb mb bp i w' g' s m := by
  have h0 : 0 ∉ T := fun hm => (hT 0 hm).1 rfl
  exact ⟨h.since.turn k h0, h.args.turn k h0, h.en.turn k (fun t ht => (hT t ht).2.1), h.rf.turn k (fun t ht => (hT t ht).2.2.1),
    h.kept.turn k (fun hm => (hT _ hm).2.2.2.1 rfl) (fun hm => (hT _ hm).2.2.2.2.1 rfl) (fun j hj hm => by have := (hT _ hm).2.2.2.2.2; unfold entTag at *; omega), h.few⟩

/-- Behind what is done: before the bytes are put into the book. -/
structure PlMid (w : World) (lv : Value) (al : List (Nat × List UInt8)) (eb mb bp i : Nat) (b1 o1 c1 : Nat) (b : List UInt8) (wr : World) (g : Tags) (s : Li.St) (m : Nat) : Prop where
  since : Since w wr g
  args : Acts wr g 0 lv al
  en : EndIs wr g T0 eb s (i + 1)
  rf : RefIs wr g mb s (i + 1)
  kept : Kept wr g bp m
  few : m ≤ 18 * i + 17
  twin : TwinAt wr g (entTag m) b1 o1 c1 b

def PlayAt (w : World) (lv : Value) (al : List (Nat × List UInt8)) (eb mb bp : Nat) (gk : Nat) (v6 : Value) (wr : World) : Prop :=
  ∃ (i : Nat) (g : Tags) (s : Li.St) (m : Nat), i ≤ al.length ∧ gk = al.length - i ∧ v6 = .int .i64 (i : Int) ∧ PlAt w lv al eb mb bp i wr g s m

theorem RefIs.to {w : World} {g g2 : Tags} {mb : Nat} {s : Li.St} {q : Nat} (h : RefIs w g mb s q) (hg : ∀ t, t < T0 → ∀ b, g b = t → g2 b = t) : RefIs w g2 mb s q := by
  obtain ⟨wv, ev, te, ks, h⟩ := h
  have ht : te < T0 := by rcases h.tag with e | e <;> rw [e] <;> decide
  exact ⟨wv, ev, te, ks, h.box.to (hg _ (by decide)), h.waits.to (hg _ (by decide)) (fun _ _ => hg _ (by decide)), h.tag, h.early.to (hg _ ht), fun k hk => (h.bytes k hk).to (hg _ (by decide)), h.rel, h.win, h.few, h.small, h.count⟩
theorem Acts.to {w : World} {g g2 : Tags} {t : Nat} {v : Value} {al : List (Nat × List UInt8)} (h : Acts w g t v al) (hg : ∀ b, g b = t → g2 b = t) : Acts w g2 t v al := by
  obtain ⟨ao, cap, h1, h2, h3, h4⟩ := h
  refine ⟨ao, cap, h1, h2, h3, fun i hi => ?_⟩
  obtain ⟨b, off, u, k1, k2, k3, k4, k5, k6⟩ := h4 i hi
  exact ⟨b, off, u, k1, hg b k2, k3, k4, k5.to hg, k6⟩

theorem EndIs.facts {w : World} {g : Tags} {t eb : Nat} {s : Li.St} {q : Nat} (h : EndIs w g t eb s q) : Li.Win 16 s ∧ s.waits.length ≤ 16 ∧ (∀ b ∈ s.waits, b.length ≤ 65536) ∧ (∀ n b, s.early n = some b → b.length ≤ 65536) := by
  obtain ⟨wv, mb, f, h⟩ := h; exact ⟨h.win, h.few, h.small.1, h.small.2⟩

/-- The two cells of an act. -/
def ActAt (w : World) (g : Tags) (b o : Nat) (kd : Nat) (u : Value) : Prop := w.cell? ⟨b, o, none⟩ = some (.int .u8 (kd : Int)) ∧ w.cell? ⟨b, o + 1, none⟩ = some u ∧ g b = 0
theorem ActAt.turn {w w' : World} {g g' : Tags} {T : List Nat} {b o kd : Nat} {u : Value} (h : ActAt w g b o kd u) (k : Turn w g w' g' T) (ht : 0 ∉ T) : ActAt w' g' b o kd u := by
  have hlt := World.block_lt_of_cell? w _ h.1
  have hb := k.block b hlt (by rw [h.2.2]; exact ht)
  exact ⟨(World.cell?_of_block hb).trans h.1, (World.cell?_of_block hb).trans h.2.1, (k.old b hlt).trans h.2.2⟩

def told (s : Li.St) (kd : Nat) (b : List UInt8) : Nat := if kd % 5 < 2 then 0 else if kd % 5 = 2 then (Li.packets s).length else (Li.came s b).1.length
theorem told_le {w : World} {g : Tags} {t eb : Nat} {s : Li.St} {q : Nat} (h : EndIs w g t eb s q) (kd : Nat) (b : List UInt8) : told s kd b ≤ 17 := by
  obtain ⟨h1, h2, h3, h4⟩ := h.facts
  unfold told
  split
  · exact Nat.zero_le _
  · split
    · exact (Li.packets_told h2 h3).1
    · have := (Li.came_told (b := b) h1.1 h4).1; omega

/-- Where a message is sent, or is not. -/
theorem mid_send {w : World} {lv : Value} {al : List (Nat × List UInt8)} {eb mb bp i b1 o1 c1 : Nat} {b : List UInt8} {wr : World} {g : Tags} {s s' : Li.St} {m : Nat} (h : PlAt w lv al eb mb bp i wr g s m) {w' : World} {g' : Tags} {T : List Nat} (k : Turn wr g w' g' T)
    (h0 : 0 ∉ T) (h1 : 801 ∉ T) (h2 : 802 ∉ T) (h3 : ∀ j, j < m → entTag j ∉ T) (hE : EndIs w' g' T0 eb s' i) (hR : RefIs w' g' mb s' i) (hW : TwinAt w' g' (entTag m) b1 o1 c1 b) : PlMid w lv al eb mb bp i b1 o1 c1 b w' g' s' m :=
  ⟨h.since.turn k h0, h.args.turn k h0, hE.mono (Nat.le_succ i), hR.mono (Nat.le_succ i), h.kept.turn k h1 h2 h3, by have := h.few; omega, hW⟩

theorem few_small {m : Nat} (hm : m ≤ 18 * 200) (j : Nat) (hj : j < m) : entTag j < 4600 := by unfold entTag; omega

theorem ActAt.to {w : World} {g g2 : Tags} {b o kd : Nat} {u : Value} (h : ActAt w g b o kd u) (hg : ∀ b, g b = 0 → g2 b = 0) : ActAt w g2 b o kd u := ⟨h.1, h.2.1, hg b h.2.2⟩
theorem sent_tags {m : Nat} (hm : m ≤ 18 * 200) (j : Nat) (hj : j < m) : entTag j ∉ [T0, T0 + 1, T0 + 2, 740, 741] := by
  have := few_small hm j hj
  have h2 : 1000 ≤ entTag j := by unfold entTag; omega
  unfold T0; simp; omega
theorem pack_tags {m : Nat} (hm : m ≤ 18 * 200) (j : Nat) (hj : j < 4000) : entTag (m + j) ∉ [T0, T0 + 1, T0 + 2, 720, 951, 740, 742, 745, 747] := by
  have h2 : 1000 ≤ entTag (m + j) := by unfold entTag; omega
  have h3 : entTag (m + j) < 9000 := by unfold entTag; omega
  unfold T0; simp; omega
theorem ent_tags {m : Nat} (hm : m ≤ 18 * 200) (j : Nat) (hj : j < m) : entTag j ∉ [T0, T0 + 1, T0 + 2, 720, 951, 740, 742, 745, 747] := by
  have := few_small hm j hj
  have h2 : 1000 ≤ entTag j := by unfold entTag; omega
  unfold T0; simp; omega

/-- Where lists were told, and put into the book. -/
theorem mid_told {w : World} {lv : Value} {al : List (Nat × List UInt8)} {eb mb bp i b1 o1 c1 k : Nat} {b : List UInt8} {wr w' : World} {g g' : Tags} {s : Li.St} {m : Nat} (hs : Since w wr g) (ha : Acts wr g 0 lv al) (hE : EndIs wr g T0 eb s (i + 1)) (hR : RefIs wr g mb s (i + 1)) (hW : TwinAt wr g (entTag (m + k)) b1 o1 c1 b)
    (T : Turn wr g w' g' [801, 802]) (K : Kept w' g' bp (m + k)) (hf : m ≤ 18 * i) (hk : k ≤ 17) : PlMid w lv al eb mb bp i b1 o1 c1 b w' g' s (m + k) :=
  ⟨hs.turn T (by decide), ha.turn T (by decide), hE.turn T (by decide), hR.turn T (by decide), K, by omega, hW.turn T (by unfold entTag; simp; omega)⟩

set_option maxRecDepth 100000 in
set_option maxHeartbeats 16000000 in
theorem play_t {w : World} {lv : Value} {al : List (Nat × List UInt8)} (hv : Acts w (fun _ => 0) 0 lv al) {Q : Ending → World → Prop} (h : ∀ w', Below w.heap.size w w' → Q (.returned (.bool true)) w') :
    Calls Tryz.prog 3 #[lv] w Q := by
  have H := Lib.hid h
  have HV := Lib.hid hv
  clear h hv
  go_enter Tryz.func3, Tryz.ntmps3
  go_wp2_with fail
  refine great_t HV.out ?_ (fun hl hs => ?_)
  · go_wp2_with fail
    exact H.out _ (Below.refl _ _)
  have HL := Lib.hid (And.intro hl hs)
  have l0 : (0 : Int) ≤ (al.length : Int) := by omega
  have l1 : (al.length : Int) ≤ 200 := by omega
  clear hl hs
  go_wp2_with fail
  refine new_t w (fun _ => 0) T0 fun eb w1 g1 T1 E1 => ?_
  have X1 := Lib.hid (And.intro ((Since.start w).turn T1 (by simp)) (And.intro (HV.out.turn T1 (by simp)) E1))
  clear T1 E1
  go_wp2_with fail
  refine rnew_t w1 g1 fun mb w2 g2 T2 R2 => ?_
  have X2 := Lib.hid (And.intro (X1.out.1.turn T2 (by simp)) (And.intro (X1.out.2.1.turn T2 (by simp)) (And.intro (X1.out.2.2.turn T2 (by simp)) R2)))
  clear T2 R2 X1
  have TB := Turn.alloc w2 g2 801 (.cells #[.int .i64 0, .slice none 0 0, .slice none 0 0, .slice none 0 0, .slice none 0 0, .slice none 0 0, .slice none 0 0, .slice none 0 0, .slice none 0 0, .slice none 0 0, .slice none 0 0, .slice none 0 0, .slice none 0 0] 41)
  have Y0 := Lib.hid (show PlAt w lv al eb mb w2.heap.size 0 _ _ Li.fresh 0 from ⟨X2.out.1.turn TB (by simp), X2.out.2.1.turn TB (by simp), X2.out.2.2.1.turn TB (by simp), X2.out.2.2.2.turn TB (by simp), kept_new w2 g2, Nat.le_refl _⟩)
  clear TB X2
  obtain ⟨ao, cp, rfl, hcp, hcm, _⟩ := HV.out
  go_upto_region 8 with fail
  generalize w2.alloc (.cells #[.int .i64 0, .slice none 0 0, .slice none 0 0, .slice none 0 0, .slice none 0 0, .slice none 0 0, .slice none 0 0, .slice none 0 0, .slice none 0 0, .slice none 0 0, .slice none 0 0, .slice none 0 0, .slice none 0 0] 41) = w3 at Y0 ⊢
  generalize g2.ext w2.heap.size 801 = g3 at Y0
  generalize w2.heap.size = bp at Y0 ⊢
  clear hcp hcm
  go_wp2_with fail
  go_loopg [6] al.length (fun gk v6 wr => PlayAt w (.slice ao al.length cp) al eb mb bp gk v6 wr)
  case atStart => exact ⟨0, g3, Li.fresh, 0, Nat.zero_le _, rfl, rfl, Y0.out⟩
  case round =>
    obtain ⟨i, g, s, m, hi, rfl, rfl, hC⟩ := hrel
    have X := Lib.hid hC
    have i0 : (0 : Int) ≤ (i : Int) := by omega
    clear Y0 hC
    by_cases hlt : i < al.length
    · have i1 : (i : Int) < (al.length : Int) := by omega
      obtain ⟨_, _, ev, _, _, hcell⟩ := X.out.args
      cases ev
      obtain ⟨b, off, u, rfl, hgb, d0, d1, hu, hkd, _⟩ := hcell i hlt
      obtain ⟨ua, uc, rfl⟩ := bytes_form hu
      have hbl := HL.out.2 i hlt
      have him : m ≤ 18 * 200 := by have := X.out.few; have := HL.out.1; omega
      obtain ⟨x, hx⟩ : ∃ x, x = al[i] := ⟨_, rfl⟩
      rw [← hx] at d0 d1 hu hkd hbl
      obtain ⟨kd, by_⟩ := x
      simp only at d0 d1 hu hkd hbl
      have HA := Lib.hid (show ActAt wr g b (off + i * 2) kd (.slice ua by_.length uc) from ⟨d0, d1, hgb⟩)
      obtain ⟨k, hk⟩ : ∃ k, k = told s kd by_ := ⟨_, rfl⟩
      have hk17 : k ≤ 17 := by rw [hk]; exact told_le X.out.en kd by_
      have HK := Lib.hid (And.intro hk (And.intro hk17 (And.intro him (And.intro hbl hlt))))
      obtain ⟨q, hq⟩ : ∃ q : Nat, q = kd % 5 := ⟨_, rfl⟩
      have hqi : (kd : Int) % 5 = (q : Int) := by omega
      have hqt : Int.tmod (kd : Int) 5 = (q : Int) := by rw [Int.tmod_eq_emod_of_nonneg (by omega)]; exact hqi
      have HQ := Lib.hid (And.intro hq (show q < 5 by omega))
      have HU := Lib.hid hu
      have k0 : (0 : Int) ≤ (kd : Int) := by omega
      have k1 : (kd : Int) < 256 := by omega
      clear hcell hu hx hbl hk hk17 hkd hi hq hgb him
      go_wp2_with fail
      refine twin_t (g := g) (entTag (m + k)) HU.out (by have := HK.out.2.2.2.1; omega) (by unfold entTag; omega) (by decide) fun b1 o1 c1 w1 g1 T1 O1 => ?_
      have X1 := Lib.hid (And.intro (X.out.turn T1 (by intro t ht; simp at ht; rcases ht with e | e <;> subst e <;> (have := HK.out.2.2.1; have := HK.out.2.1; unfold entTag T0; omega))) (And.intro (HU.out.turn T1 (by unfold entTag; simp; omega)) (And.intro O1 (HA.out.turn T1 (by unfold entTag; simp; omega)))))
      obtain ⟨d0, d1, _⟩ := X1.out.2.2.2
      clear T1 O1 X HU HA
      go_upto_block 2 with fail
      go_cut [8, 9, 10, 11, 12] from 20 to 106 (fun _ _ _ _ _ wx => ∃ g' s', PlMid w (.slice (some ⟨b, off, none⟩) al.length cp) al eb mb bp i b1 o1 c1 by_ wx g' s' (m + k) ∧ Bytes wx g' 0 (.slice ua by_.length uc) by_ ∧ ActAt wx g' b (off + i * 2) kd (.slice ua by_.length uc))
      case first =>
        have D := fun (w2 : World) (g2 : Tags) (T : Turn w1 g1 w2 g2 []) => (X1.out.2.2.2.turn T (by simp)).2.1
        have dd := D _ _ (Turn.drew w1 g1)
        by_cases hq2 : q < 2
        · obtain rfl : k = 0 := by rw [HK.out.1]; unfold told; rw [if_pos (by rw [← HQ.out.1]; exact hq2)]
          have hq3 : q = 0 ∨ q = 1 := by omega
          have HM := Lib.hid HK.out.2.2.1
          clear hq2 hqi hqt D
          by_cases hlong : 65536 < by_.length
          · have HLO := Lib.hid hlong
            clear hlong
            rcases hq3 with rfl | rfl
            all_goals
              go_wp2_with fail
              go_region_law (first
                | (go_simp; go_at_call 8; refine send_limit (X1.out.1.en.turn (Turn.drew w1 g1) (by simp)) (X1.out.2.2.1.bytes.turn (Turn.drew w1 g1) (by simp)) HLO.out ?_)
                | (go_simp; go_at_call 9; refine rsend_limit (X1.out.1.rf.turn (Turn.drew w1 g1) (by simp)) (X1.out.2.1.turn (Turn.drew w1 g1) (by simp)) HLO.out ?_))
              all_goals
                go_wp2_with fail
                go_meet
                case rel => exact ⟨g1, s, mid_send X1.out.1 (Turn.drew w1 g1) (by simp) (by simp) (by simp) (by simp) (X1.out.1.en.turn (Turn.drew w1 g1) (by simp)) (X1.out.1.rf.turn (Turn.drew w1 g1) (by simp)) (X1.out.2.2.1.turn (Turn.drew w1 g1) (by simp)), X1.out.2.1.turn (Turn.drew w1 g1) (by simp), X1.out.2.2.2.turn (Turn.drew w1 g1) (by simp)⟩
          · by_cases hfull : s.waits.length = 16
            · have HLO := Lib.hid (And.intro (show by_.length ≤ 65536 by omega) hfull)
              clear hlong hfull
              rcases hq3 with rfl | rfl
              all_goals
                go_wp2_with fail
                go_region_law (first
                  | (go_simp; go_at_call 8; refine send_full (X1.out.1.en.turn (Turn.drew w1 g1) (by simp)) (X1.out.2.2.1.bytes.turn (Turn.drew w1 g1) (by simp)) HLO.out.1 HLO.out.2 ?_)
                  | (go_simp; go_at_call 9; refine rsend_full (X1.out.1.rf.turn (Turn.drew w1 g1) (by simp)) (X1.out.2.1.turn (Turn.drew w1 g1) (by simp)) HLO.out.1 HLO.out.2 ?_))
                all_goals
                  go_wp2_with fail
                  go_meet
                  case rel => exact ⟨g1, s, mid_send X1.out.1 (Turn.drew w1 g1) (by simp) (by simp) (by simp) (by simp) (X1.out.1.en.turn (Turn.drew w1 g1) (by simp)) (X1.out.1.rf.turn (Turn.drew w1 g1) (by simp)) (X1.out.2.2.1.turn (Turn.drew w1 g1) (by simp)), X1.out.2.1.turn (Turn.drew w1 g1) (by simp), X1.out.2.2.2.turn (Turn.drew w1 g1) (by simp)⟩
            · have HLO := Lib.hid (And.intro (show by_.length ≤ 65536 by omega) (show s.waits.length < 16 by have := X1.out.1.en.facts.2.1; omega))
              have hm := HM.out
              have HTW := Lib.hid (show entTag m ∉ [T0, T0 + 1, T0 + 2] ∧ entTag m ∉ [740, 741] ∧ entTag m < T0 by have h2 : 1000 ≤ entTag m := (by unfold entTag; omega); have h3 : entTag m < 9000 := (by unfold entTag; omega); unfold T0; refine ⟨?_, ?_, ?_⟩ <;> (try simp) <;> omega)
              clear hlong hfull hm
              rcases hq3 with rfl | rfl
              all_goals
                go_wp2_with fail
                go_region_law (first
                  | (go_simp; go_at_call 8; refine send_ok (X1.out.1.en.turn (Turn.drew w1 g1) (by simp)) (X1.out.2.2.1.bytes.turn (Turn.drew w1 g1) (by simp)) HLO.out.1 HLO.out.2 HTW.out.2.2 ?_; intro w2 g2 T2 E2; have X2 := Lib.hid (And.intro ((Turn.drew w1 g1).trans T2 (V := [T0, T0 + 1, T0 + 2]) (by simp) (fun _ h => h)) E2); clear T2 E2; have d2 := (X1.out.2.2.2.turn X2.out.1 (by decide)).2.1)
                  | (go_simp; go_at_call 9; refine rsend_ok (X1.out.1.rf.turn X2.out.1 (by decide)) (X1.out.2.1.turn X2.out.1 (by decide)) HLO.out.1 HLO.out.2 ?_; intro w3 g3 T3 R3; have X3 := Lib.hid (And.intro T3 R3); clear T3 R3; have d3 := ((X1.out.2.2.2.turn X2.out.1 (by decide)).turn X3.out.1 (by decide)).2.1))
                all_goals
                  go_wp2_with fail
                  go_meet
                  case rel =>
                    exact ⟨g3, sent s by_, mid_send X1.out.1 (X2.out.1.trans X3.out.1 (V := [T0, T0 + 1, T0 + 2, 740, 741]) (by simp) (by simp)) (by decide) (by decide) (by decide) (sent_tags HM.out) (X2.out.2.turn X3.out.1 (by decide)) X3.out.2 ((X1.out.2.2.1.turn X2.out.1 HTW.out.1).turn X3.out.1 HTW.out.2.1),
                      (X1.out.2.1.turn X2.out.1 (by decide)).turn X3.out.1 (by decide), (X1.out.2.2.2.turn X2.out.1 (by decide)).turn X3.out.1 (by decide)⟩
        · by_cases hqq : q = 2
          · subst hqq
            obtain ⟨ps, hps⟩ : ∃ ps, ps = Li.packets s := ⟨_, rfl⟩
            obtain rfl : k = ps.length := by rw [HK.out.1, hps]; unfold told; rw [if_neg (by rw [← HQ.out.1]; decide), if_pos HQ.out.1.symm]
            have hpt := Li.packets_told X1.out.1.en.facts.2.1 X1.out.1.en.facts.2.2.1
            rw [← hps] at hpt
            have HP := Lib.hid (And.intro hps.symm hpt)
            clear hq2 hqi hqt D hps hpt
            have hm := HK.out.2.2.1
            have HJ := Lib.hid (show ∀ j : Nat, entTag (m + min j 100) ∉ [T0, T0 + 1, T0 + 2, 720, 951, 740, 742, 745, 747] from fun j => pack_tags HK.out.2.2.1 _ (by omega))
            have HTW := Lib.hid (pack_tags HK.out.2.2.1 ps.length (by have := HK.out.2.1; omega))
            clear hm
            go_wp2_with fail
            refine packets_k 720 (fun j => entTag (m + min j 100)) X1.out.1.en (by decide) (by decide) (by decide) (fun j e => HJ.out j (by rw [e]; simp)) (fun j e => HJ.out j (by rw [e]; simp)) (fun j e => HJ.out j (by rw [e]; simp)) HP.out.1 fun a2 c2 w2 g2 T2 L2 E2 => ?_
            have X2 := Lib.hid (And.intro T2 (And.intro L2 E2))
            clear T2 L2 E2
            go_wp2_with fail
            refine rpackets_t (X1.out.1.rf.turn X2.out.1 (by decide)) HP.out.1 fun a3 c3 w3 g3 T3 L3 R3 => ?_
            have X3 := Lib.hid (And.intro T3 (And.intro L3 R3))
            clear T3 L3 R3
            go_wp2_with fail
            refine (sameFrames_eq w3 _ _ _ _ ps (X2.out.2.1.turn X3.out.1 (by decide) (fun j h => HJ.out j (by simp at h ⊢; omega))).reads X3.out.2.1.reads).mono ?_
            rintro e' w4 ⟨rfl, n4, hw4⟩
            have T4 := Turn.drewN w3 g3 n4
            rw [← hw4] at T4
            have TT := (X2.out.1.trans X3.out.1 (V := [T0, T0 + 1, T0 + 2, 720, 951, 740, 742, 745, 747]) (fun t h => by simp at h ⊢; omega) (fun t h => by simp at h ⊢; omega)).trans T4 (V := [T0, T0 + 1, T0 + 2, 720, 951, 740, 742, 745, 747]) (fun _ h => h) (by simp)
            have LL := ((X2.out.2.1.turn X3.out.1 (by decide) (fun j h => HJ.out j (by simp at h ⊢; omega))).turn T4 (by simp) (fun _ => by simp)).to (u := 720) (u' := fun j => entTag (m + j)) (fun _ h => h) (fun j hj b h => by rw [h]; have := HP.out.2.1; congr 2; omega)
            have X4 := Lib.hid (And.intro TT (And.intro LL (And.intro ((X2.out.2.2.turn X3.out.1 (by decide)).turn T4 (by simp)) (X3.out.2.2.turn T4 (by simp)))))
            clear hw4 T4 TT LL X2 X3
            go_wp2_with fail
            refine frames_add (X1.out.1.kept.turn X4.out.1 (by decide) (by decide) (ent_tags HK.out.2.2.1)) X4.out.2.1 (by have := HK.out.2.2.1; have := HP.out.2.1; omega) (fun f hf => by have := HP.out.2.2 f hf; omega) fun w5 g5 T5 K5 => ?_
            have X5 := Lib.hid (And.intro T5 (mid_told (w := w) (X1.out.1.since.turn X4.out.1 (by decide)) (X1.out.1.args.turn X4.out.1 (by decide)) (X4.out.2.2.1.mono (Nat.le_succ i)) (X4.out.2.2.2.mono (Nat.le_succ i)) (X1.out.2.2.1.turn X4.out.1 HTW.out) T5 K5 X1.out.1.few HP.out.2.1))
            clear T5 K5
            go_wp2_with fail
            go_meet
            case rel => exact ⟨g5, _, X5.out.2, (X1.out.2.1.turn X4.out.1 (by decide)).turn X5.out.1 (by decide), (X1.out.2.2.2.turn X4.out.1 (by decide)).turn X5.out.1 (by decide)⟩
          · obtain ⟨r, hr⟩ : ∃ r, r = Li.came s by_ := ⟨_, rfl⟩
            obtain ⟨fs, en, s'⟩ := r
            obtain rfl : k = fs.length := by rw [HK.out.1]; unfold told; rw [if_neg (by rw [← HQ.out.1]; exact hq2), if_neg (by rw [← HQ.out.1]; exact hqq), ← hr]
            have hct := Li.came_told (b := by_) X1.out.1.en.facts.1.1 X1.out.1.en.facts.2.2.2
            rw [← hr] at hct
            have HP := Lib.hid (And.intro hr.symm (And.intro hct.1 (And.intro hct.2.1 hct.2.2)))
            have q3 : ((q : Int) == 0) = false := by simp; omega
            have q4 : ((q : Int) == 1) = false := by simp; omega
            have q5 : ((q : Int) == 2) = false := by simp; omega
            have HTW := Lib.hid (pack_tags HK.out.2.2.1 fs.length (by have := HK.out.2.1; omega))
            have HTT := Lib.hid (show entTag (m + fs.length) < T0 by have := HK.out.2.2.1; have := HK.out.2.1; unfold entTag T0; omega)
            have hi9 : i < 1000000 := by have := HL.out.1; omega
            clear hq2 hqq hqi hqt D hr hct
            go_wp2_with fail
            refine came_k 720 X1.out.1.en X1.out.2.2.1.bytes (by omega) HTT.out (by decide) HP.out.1 rfl fun a2 c2 w2 g2 T2 L2 E2 => ?_
            have X2 := Lib.hid (And.intro T2 (And.intro L2 E2))
            have d2 := (X1.out.2.2.2.turn T2 (by decide)).2.1
            clear T2 L2 E2
            go_wp2_with fail
            refine rcame_t (X1.out.1.rf.turn X2.out.1 (by decide)) hi9 (X1.out.2.1.turn X2.out.1 (by decide)) (.inl (by decide)) HP.out.1 rfl fun a3 c3 w3 g3 T3 L3 R3 => ?_
            have X3 := Lib.hid (And.intro T3 (And.intro L3 R3))
            clear T3 L3 R3
            go_wp2_with fail
            refine (sameFrames_eq w3 _ _ _ _ fs (X2.out.2.1.turn X3.out.1 (by decide) (fun j h => by have : T0 ≤ tt T0 s.awaited j := (by unfold tt; omega); simp at h; rcases h with h | h | h | h <;> (rw [h] at this; exact absurd this (by decide)))).reads X3.out.2.1.reads).mono ?_
            rintro e' w4 ⟨rfl, n4, hw4⟩
            have T4 := Turn.drewN w3 g3 n4
            rw [← hw4] at T4
            have TT := (X2.out.1.trans X3.out.1 (V := [T0, T0 + 1, T0 + 2, 720, 951, 740, 742, 745, 747]) (fun t h => by simp at h ⊢; omega) (fun t h => by simp at h ⊢; omega)).trans T4 (V := [T0, T0 + 1, T0 + 2, 720, 951, 740, 742, 745, 747]) (fun _ h => h) (by simp)
            have LL := (X2.out.2.1.turn X3.out.1 (by decide) (fun j h => by have : T0 ≤ tt T0 s.awaited j := (by unfold tt; omega); simp at h; rcases h with h | h | h | h <;> (rw [h] at this; exact absurd this (by decide)))).turn T4 (by simp) (fun _ => by simp)
            have EE := (X2.out.2.2.turn X3.out.1 (by decide)).turn T4 (by simp)
            have RR := X3.out.2.2.turn T4 (by simp)
            have low : ∀ t, t < T0 → ∀ b, g3 b = t → ret T0 s.awaited fs.length m g3 b = t := fun t ht b hb => (ret_low (by omega)).trans hb
            have low0 : ∀ b, g3 b = 0 → ret T0 s.awaited fs.length m g3 b = 0 := low 0 (by decide)
            have haw := X1.out.1.en.facts.1.1
            have X4 := Lib.hid (And.intro ((X1.out.1.since.turn TT (by decide)).to low0) (And.intro (Acts.to (X1.out.1.args.turn TT (by decide)) low0) (And.intro (EE.ret (m := m) haw HP.out.2.1 HP.out.2.2.2) (And.intro (RR.to low) (And.intro (show TwinAt w4 (ret T0 s.awaited fs.length m g3) (entTag (m + fs.length)) b1 o1 c1 by_ from Owns.to (X1.out.2.2.1.turn TT HTW.out) (low _ HTT.out))
              (And.intro ((X1.out.1.kept.turn TT (by decide) (by decide) (ent_tags HK.out.2.2.1)).to low (by have := HK.out.2.2.1; omega)) (And.intro (LL.to (u := 720) (u' := fun j => entTag (m + j)) (low 720 (by decide)) (fun j hj b hb => ret_told haw HP.out.2.1 hj hb)) (And.intro ((X1.out.2.1.turn TT (by decide)).to low0) ((X1.out.2.2.2.turn TT (by decide)).to low0)))))))))
            clear hw4 T4 TT LL EE RR low low0 haw X2 X3 d2
            generalize ret T0 s.awaited fs.length m g3 = g4 at X4
            go_wp2_with fail
            refine frames_add X4.out.2.2.2.2.2.1 X4.out.2.2.2.2.2.2.1 (by have := HK.out.2.2.1; have := HP.out.2.1; omega) (fun f hf => by have := HP.out.2.2.1 f hf; omega) fun w5 g5 T5 K5 => ?_
            have X5 := Lib.hid (And.intro T5 (mid_told (w := w) X4.out.1 X4.out.2.1 X4.out.2.2.1 X4.out.2.2.2.1 X4.out.2.2.2.2.1 T5 K5 X1.out.1.few (by have := HP.out.2.1; omega)))
            clear T5 K5
            go_wp2_with fail
            go_meet
            case rel => exact ⟨g5, _, X5.out.2, X4.out.2.2.2.2.2.2.2.1.turn X5.out.1 (by decide), X4.out.2.2.2.2.2.2.2.2.turn X5.out.1 (by decide)⟩
      case rest =>
        obtain ⟨g5, s5, M5, U5, A5⟩ := hcut
        have X2 := Lib.hid (And.intro M5 (And.intro U5 A5))
        obtain ⟨_, d1, _⟩ := A5
        clear M5 U5 hqi hqt X1
        go_wp2_with fail
        refine waits_t X2.out.1.en ?_
        go_wp2_with fail
        refine rwaits_t X2.out.1.rf ?_
        go_wp2_with fail
        refine left_t X2.out.1.twin X2.out.2.1 (by have := HK.out.2.2.2.1; omega) fun n3 => ?_
        have T3 := Turn.drewN wc g5 n3
        have X3 := Lib.hid (And.intro T3 X2.out.1)
        clear T3 d1
        go_wp2_with fail
        refine kept_add (X3.out.2.kept.turn X3.out.1 (by simp) (by simp) (fun _ _ => by simp)) (by have := HK.out.2.2.1; have := HK.out.2.1; omega) (X3.out.2.twin.turn X3.out.1 (by simp)).owns (by have := HK.out.2.2.2.1; omega) fun w4 g4 T4 K4 => ?_
        have TT := X3.out.1.trans T4 (V := [801, 802]) (by simp) (by simp)
        have X4 := Lib.hid (show PlAt w (.slice (some ⟨b, off, none⟩) al.length cp) al eb mb bp (i + 1) w4 g4 s5 (m + k + 1) from ⟨X3.out.2.since.turn TT (by decide), X3.out.2.args.turn TT (by decide), X3.out.2.en.turn TT (by decide), X3.out.2.rf.turn TT (by decide), K4, by have := X3.out.2.few; omega⟩)
        clear T4 K4 TT
        go_wp2_with fail
        go_roundg (al.length - (i + 1))
        case measure => have := HK.out.2.2.2.2; omega
        case rel => exact ⟨i + 1, g4, s5, m + k + 1, HK.out.2.2.2.2, rfl, by go_num, X4.out⟩
    · have hie : i = al.length := by omega
      have i1 : (al.length : Int) ≤ (i : Int) := by omega
      clear hlt hi hie
      go_wp2_with fail
      refine kept_apart X.out.kept fun w' g' T => ?_
      have X2 := Lib.hid (X.out.since.turn T (by simp [entTags]))
      clear T X
      go_wp2_with fail
      exact H.out _ X2.out.below

theorem play_any (w : World) (v : Value) (al : List (Nat × List UInt8)) (hv : Acts w (fun _ => 0) 0 v al) : Calls Tryz.prog 3 #[v] w fun e w' => e = .returned (.bool true) ∧ Below w.heap.size w w' :=
  play_t hv fun _ hB => ⟨rfl, hB⟩
end Go.Proofs.YtoedalocfepkoaaGreatDoor
