/- The statement ScopesTwice: its walk. -/
import Derived.Test.YtmkhfonafcikdaaGreatDoorScAliveU
import Derived.Test.YtmkhfonafcikdaaGreatDoorTrB3
namespace Go.My
open Go.RowKit Go.Nd
/-- Functions, written as a literal. -/
theorem funcs_lit {w : World} {B : Nat} (T : TypeId) (els : List Fl) (fs : List Nd.Fn) (o : Array Value) (ho : o = (flCells els).toArray) (hl : els.length = fs.length) (hn : els.length ≤ 1000000)
    (hA : ∀ j (h1 : j < els.length) (h2 : j < fs.length), FlIs w (· < B) false els[j] fs[j]) (hB : B ≤ w.heap.size) (h0 : 0 < els.length) :
    FuncsIn (w.alloc (.cells o T)) (· < w.heap.size + 1) false (.slice (some ⟨w.heap.size, 0, none⟩) fs.length fs.length) fs := by
  have hb := Below.alloc (Below.refl w.heap.size w) (Nat.le_refl _) (.cells o T)
  have hO : Owns (w.alloc (.cells o T)) (Tags.ext (fun _ => 0) w.heap.size 5) 5 T 3 (.slice (some ⟨w.heap.size, 0, none⟩) fs.length fs.length) fs.length (flCells els) := by
    refine ⟨some w.heap.size, ⟨by rw [flCells_length, hl], .inr ⟨w.heap.size, 0, fs.length, o, rfl, rfl, heap_alloc_new w _, Nat.le_refl _, by unfold maxLen; omega, ?_, ?_⟩⟩, fun b hb => by cases hb; exact Tags.ext_new _ _ _ _ (Nat.le_refl _)⟩
    · rw [ho, List.size_toArray, flCells_length, hl]; omega
    · rw [ho, List.drop_zero, ← hl, ← flCells_length]; simp
  have := funcs_of_owns (B := w.heap.size + 1) hO hl rfl (by omega) (fun j h1 h2 => ?_) (by simp)
  · exact this
  · have h := hA j h1 h2
    exact ⟨h.name, (h.args.below (hb.mono hB)).mono fun b _ hb => Nat.lt_of_lt_of_le hb (by omega), (h.body.below (hb.mono hB)).mono fun b _ hb => Nat.lt_of_lt_of_le hb (by omega)⟩
theorem nodes_none (w : World) (S : Nat → Prop) : Nodes w S false (.slice none 0 0) .nil := ⟨none, 0, rfl, ⟨Nat.le_refl _, by decide, by decide, fun e => by cases e⟩, .nil none fun e => by cases e⟩
end Go.My
namespace Go.Proofs.YtmkhfonafcikdaaGreatDoor
open Go.RowKit Go.My Go.Nd

set_option maxRecDepth 100000 in
set_option maxHeartbeats 2000000 in
theorem taken_t {w : World} (s : Tx) : Calls Tryz.prog 27 #[.string (bs s)] w fun e w' => e = .returned (.bool (takenB s)) ∧ Below w.heap.size w w' := by
  have hT := bsT s
  go_enter Tryz.func27, Tryz.ntmps27
  by_cases h1 : s = [120]
  · subst h1
    go_wp2_with fail
    go_ret
    exact ⟨rfl, Below.refl _ _⟩
  · by_cases h2 : s = [116]
    · subst h2
      go_wp2_with fail
      go_ret
      exact ⟨rfl, Below.refl _ _⟩
    · by_cases h3 : s = [103, 99, 100]
      · subst h3
        go_wp2_with fail
        go_ret
        exact ⟨rfl, Below.refl _ _⟩
      · by_cases h4 : s = [108, 101, 110]
        · subst h4
          go_wp2_with fail
          go_ret
          exact ⟨rfl, Below.refl _ _⟩
        · by_cases h5 : s = [114, 101, 115]
          · subst h5
            go_wp2_with fail
            go_ret
            exact ⟨rfl, Below.refl _ _⟩
          · have HL := Lib.hid (show takenB s = false by unfold takenB; simp [h1, h2, h3, h4, h5])
            go_wp2_with fail
            go_ret
            exact ⟨by rw [HL.out]; simp [h1, h2, h3, h4, h5], Below.refl _ _⟩

theorem nm10_len : ∀ s ∈ nm10, s.length ≤ 140737488351232 := by decide
theorem twice_at {s t : Tx} (hs : s ∈ nm10) (ht : t ∈ nm10) : twiceOk s t = true := List.all_eq_true.1 (List.all_eq_true.1 twice_all s hs) t ht
def twP1 (s t : Tx) : Pr := ⟨[⟨s, [], .nil⟩, ⟨t, [], .nil⟩], .nil⟩
def twP2 (s t : Tx) : Pr := ⟨[⟨[102], [s, t], .nil⟩], .nil⟩
theorem small_lit {fs : List Nd.Fn} (h1 : fs.length ≤ 100) (h2 : ∀ f ∈ fs, f.args.length ≤ 100 ∧ f.body = .nil) : SmallP ⟨fs, .nil⟩ :=
  ⟨by simp only; omega, fun f hf => by have := h2 f hf; rw [this.2]; refine ⟨by omega, Nat.zero_le _⟩, Nat.zero_le _⟩

set_option maxRecDepth 100000 in
set_option maxHeartbeats 8000000 in
theorem twice_t {w : World} (n c : Nat) (hn : n < 256) (hc : c < 256) : Calls Tryz.prog 8 #[.int .u8 (n : Int), .int .u8 (c : Int)] w fun e w' => e = .returned (.bool true) ∧ Below w.heap.size w w' := by
  obtain ⟨i, hi⟩ : ∃ i, i = n % 10 := ⟨_, rfl⟩
  obtain ⟨j, hj⟩ : ∃ j, j = c % 10 := ⟨_, rfl⟩
  have hi10 : i < 10 := by omega
  have hj10 : j < 10 := by omega
  have mi : (n : Int) % 10 = (i : Int) := by omega
  have mi2 : Int.tmod (n : Int) 10 = (i : Int) := by rw [Int.tmod_eq_emod_of_nonneg (by omega)]; exact mi
  have mj : (c : Int) % 10 = (j : Int) := by omega
  have mj2 : Int.tmod (c : Int) 10 = (j : Int) := by rw [Int.tmod_eq_emod_of_nonneg (by omega)]; exact mj
  have i0 : (0 : Int) ≤ (i : Int) := by omega
  have i9 : (i : Int) < 10 := by omega
  have j0 : (0 : Int) ≤ (j : Int) := by omega
  have j9 : (j : Int) < 10 := by omega
  obtain ⟨s, hs⟩ : ∃ s, s = nm10[i]'hi10 := ⟨_, rfl⟩
  obtain ⟨t, ht⟩ : ∃ t, t = nm10[j]'hj10 := ⟨_, rfl⟩
  have hsm : s ∈ nm10 := by rw [hs]; exact List.getElem_mem _
  have htm : t ∈ nm10 := by rw [ht]; exact List.getElem_mem _
  have hT := texts_lit (w := w) #[.string ⟨#[102]⟩, .string ⟨#[103]⟩, .string ⟨#[120]⟩, .string ⟨#[116]⟩, .string ⟨#[103, 99, 100]⟩, .string ⟨#[108, 101, 110]⟩, .string ⟨#[114, 101, 115]⟩, .string ⟨#[97]⟩, .string ⟨#[84, 101, 108, 108]⟩, .string ⟨#[120, 120]⟩] 9 nm10 rfl nm10_len (by decide)
  obtain ⟨_, _, e1, _, _, _, _, hcell⟩ := hT
  obtain ⟨b1, o1, e2, hs1, q1, hl1⟩ := hcell i hi10
  obtain ⟨b2, o2, e3, hs2, q2, hl2⟩ := hcell j hj10
  cases e1
  cases e2
  cases e3
  rw [Nat.zero_add] at q1 q2
  rw [← hs] at q1
  rw [← ht] at q2
  have HST := Lib.hid (And.intro hsm (And.intro htm (twice_at hsm htm)))
  clear hs ht hsm htm hl1 hl2 hs1 hs2 hcell hi hj hi10 hj10
  go_enter Tryz.func8, Tryz.ntmps8
  go_wp2_with fail
  obtain ⟨w1, hw1⟩ : ∃ w1, w1 = w.alloc (.cells #[.string ⟨#[102]⟩, .string ⟨#[103]⟩, .string ⟨#[120]⟩, .string ⟨#[116]⟩, .string ⟨#[103, 99, 100]⟩, .string ⟨#[108, 101, 110]⟩, .string ⟨#[114, 101, 115]⟩, .string ⟨#[97]⟩, .string ⟨#[84, 101, 108, 108]⟩, .string ⟨#[120, 120]⟩] 9) := ⟨_, rfl⟩
  have hb1 := Below.alloc (Below.refl w.heap.size w) (Nat.le_refl _) (.cells #[.string ⟨#[102]⟩, .string ⟨#[103]⟩, .string ⟨#[120]⟩, .string ⟨#[116]⟩, .string ⟨#[103, 99, 100]⟩, .string ⟨#[108, 101, 110]⟩, .string ⟨#[114, 101, 115]⟩, .string ⟨#[97]⟩, .string ⟨#[84, 101, 108, 108]⟩, .string ⟨#[120, 120]⟩] 9)
  have z1 : w1.heap.size = w.heap.size + 1 := by rw [hw1]; exact World.size_alloc _ _
  rw [← hw1] at hb1 q1 q2
  rw [← hw1, ← z1]
  have B1 := Lib.hid hb1
  clear hw1 hb1 z1 q1 q2
  have hls := nm10_len s HST.out.1
  have hlt := nm10_len t HST.out.2.1
  have hF1 := funcs_lit (w := w1) (B := w1.heap.size) 57 [⟨s, .slice none 0 0, .slice none 0 0⟩, ⟨t, .slice none 0 0, .slice none 0 0⟩] [⟨s, [], .nil⟩, ⟨t, [], .nil⟩] #[.string (tx s), .slice none 0 0, .slice none 0 0, .string (tx t), .slice none 0 0, .slice none 0 0] rfl rfl (by simp)
    (fun j h1 h2 => by
      have h4 : j < 2 := h1
      match j, h4 with
      | 0, _ => exact ⟨⟨rfl, hls⟩, texts_nil _ _, nodes_none _ _⟩
      | 1, _ => exact ⟨⟨rfl, hlt⟩, texts_nil _ _, nodes_none _ _⟩) (Nat.le_refl _) (by simp)
  have hbA := Below.alloc (Below.refl w1.heap.size w1) (Nat.le_refl _) (.cells #[.string (tx s), .slice none 0 0, .slice none 0 0, .string (tx t), .slice none 0 0, .slice none 0 0] 57)
  obtain ⟨E, hE⟩ : ∃ E, E = scheck wrapI (twP1 s t) := ⟨_, rfl⟩
  obtain ⟨F, hFe⟩ : ∃ F, F = scheck wrapI (twP2 s t) := ⟨_, rfl⟩
  have htw : (((E == 0) == (s != t && !takenB s && !takenB t)) && ((F == 0) == (s != t)) && (E == 0 || E == 7) && (F == 0 || F == 7)) = true := by rw [hE, hFe]; exact HST.out.2.2
  refine (scheck_t (p := twP1 s t) (B := w1.heap.size + 1) (by simp) hF1 (nodes_none _ _) (small_lit (by simp) (fun f hf => by simp at hf; rcases hf with rfl | rfl <;> exact ⟨by simp, rfl⟩))).mono ?_
  rintro e w2 ⟨rfl, hb2⟩
  have B2 := Lib.hid (B1.out.trans ((hbA.trans (hb2.mono hbA.size)).mono B1.out.size))
  rw [← hE]
  have HF2 := Lib.hid hFe
  have HTW := Lib.hid htw
  clear hE hFe htw hF1 hbA hb2
  go_wp2_with fail
  have hT2 := texts_lit (w := w2) #[.string (tx s), .string (tx t)] 9 [s, t] rfl (fun x hx => by simp at hx; rcases hx with rfl | rfl <;> assumption) (by simp)
  have hbS := Below.alloc (Below.refl w2.heap.size w2) (Nat.le_refl _) (.cells #[.string (tx s), .string (tx t)] 9)
  have z3 : (w2.alloc (.cells #[.string (tx s), .string (tx t)] 9)).heap.size = w2.heap.size + 1 := World.size_alloc _ _
  obtain ⟨w3, hw3⟩ : ∃ w3, w3 = w2.alloc (.cells #[.string (tx s), .string (tx t)] 9) := ⟨_, rfl⟩
  rw [← hw3] at hT2 hbS z3
  rw [← hw3, ← z3]
  rw [← z3] at hT2
  have hF3 := funcs_lit (w := w3) (B := w3.heap.size) 57 [⟨[102], .slice (some ⟨w2.heap.size, 0, none⟩) 2 2, .slice none 0 0⟩] [⟨[102], [s, t], .nil⟩] #[.string ⟨#[102]⟩, .slice (some ⟨w2.heap.size, 0, none⟩) 2 2, .slice none 0 0] rfl rfl (by simp)
    (fun j h1 h2 => by
      have h4 : j < 1 := h1
      match j, h4 with
      | 0, _ => exact ⟨⟨rfl, (show (1 : Nat) ≤ 140737488351232 by decide)⟩, hT2, nodes_none _ _⟩) (Nat.le_refl _) (by simp)
  have hbA := Below.alloc (Below.refl w3.heap.size w3) (Nat.le_refl _) (.cells #[.string ⟨#[102]⟩, .slice (some ⟨w2.heap.size, 0, none⟩) 2 2, .slice none 0 0] 57)
  refine (scheck_t (p := twP2 s t) (B := w3.heap.size + 1) (by simp) hF3 (nodes_none _ _) (small_lit (by simp) (fun f hf => by simp at hf; rcases hf with rfl; exact ⟨by simp, rfl⟩))).mono ?_
  rintro e w4 ⟨rfl, hb4⟩
  have B4 := Lib.hid (B2.out.trans ((hbS.trans ((hbA.trans (hb4.mono hbA.size)).mono hbS.size)).mono B2.out.size))
  rw [← HF2.out]
  have hT1 : (tx s).toList = s := bsT s
  have hT2 : (tx t).toList = t := bsT t
  clear hw3 hbS z3 hF3 hbA hb4
  go_wp2_with fail
  refine (alive11_t (w := w4)).mono ?_
  rintro e w5 ⟨rfl, hb5⟩
  have B5 := Lib.hid (B4.out.trans (hb5.mono B4.out.size))
  clear hb5
  have htw := HTW.out
  by_cases hst : s = t
  · have hE7 : E = 7 ∧ F = 7 := by
      rw [show (s != t) = false by simp [hst]] at htw
      simp at htw
      omega
    obtain ⟨rfl, rfl⟩ := hE7
    clear htw HTW HF2 HST
    subst hst
    go_wp2_with fail
    go_ret
    exact ⟨by simp, B5.out⟩
  · have hb2 : (s == t) = false := beq_eq_false_iff_ne.2 hst
    have hb3 : ((tx s).toList == (tx t).toList) = false := by rw [hT1, hT2]; exact hb2
    have hne : (s != t) = true := by simp [hst]
    rw [hne] at htw
    cases hks : takenB s with
    | true =>
      have hE7 : E = 7 ∧ F = 0 := by
        rw [hks] at htw
        simp at htw
        omega
      obtain ⟨rfl, rfl⟩ := hE7
      have HK := Lib.hid hks
      clear htw HTW HF2 HST hst hks
      go_wp2_with fail
      refine (taken_t (w := w5) s).mono ?_
      rintro e w6 ⟨rfl, hb6⟩
      have B6 := Lib.hid (B5.out.trans (hb6.mono B5.out.size))
      rw [HK.out]
      clear hb6
      go_wp2_with fail
      go_ret
      exact ⟨by simp, B6.out⟩
    | false =>
      cases hkt : takenB t with
      | true =>
        have hE7 : E = 7 ∧ F = 0 := by
          rw [hks, hkt] at htw
          simp at htw
          omega
        obtain ⟨rfl, rfl⟩ := hE7
        have HK := Lib.hid hks
        have HT := Lib.hid hkt
        clear htw HTW HF2 HST hst hks hkt
        go_wp2_with fail
        refine (taken_t (w := w5) s).mono ?_
        rintro e w6 ⟨rfl, hb6⟩
        have B6 := Lib.hid (B5.out.trans (hb6.mono B5.out.size))
        rw [HK.out]
        clear hb6
        go_wp2_with fail
        refine (taken_t (w := w6) t).mono ?_
        rintro e w7 ⟨rfl, hb7⟩
        have B7 := Lib.hid (B6.out.trans (hb7.mono B6.out.size))
        rw [HT.out]
        clear hb7
        go_wp2_with fail
        go_ret
        exact ⟨by simp, B7.out⟩
      | false =>
        have hE7 : E = 0 ∧ F = 0 := by
          rw [hks, hkt] at htw
          simp at htw
          omega
        obtain ⟨rfl, rfl⟩ := hE7
        have HK := Lib.hid hks
        have HT := Lib.hid hkt
        clear htw HTW HF2 HST hst hks hkt
        go_wp2_with fail
        refine (taken_t (w := w5) s).mono ?_
        rintro e w6 ⟨rfl, hb6⟩
        have B6 := Lib.hid (B5.out.trans (hb6.mono B5.out.size))
        rw [HK.out]
        clear hb6
        go_wp2_with fail
        refine (taken_t (w := w6) t).mono ?_
        rintro e w7 ⟨rfl, hb7⟩
        have B7 := Lib.hid (B6.out.trans (hb7.mono B6.out.size))
        rw [HT.out]
        clear hb7
        go_wp2_with fail
        go_ret
        exact ⟨by simp, B7.out⟩

theorem twice_any (w : World) (x : Int) (hx : (Lit.int .u8 x).wf = true) (y : Int) (hy : (Lit.int .u8 y).wf = true) : Calls Tryz.prog 8 #[.int .u8 x, .int .u8 y] w fun e w' => e = .returned (.bool true) ∧ Below w.heap.size w w' := by
  simp [Lit.wf, IntKind.min, IntKind.max, IntKind.signed, IntKind.bits] at hx hy
  obtain ⟨n, rfl⟩ : ∃ k : Nat, x = (k : Int) := ⟨x.toNat, by omega⟩
  obtain ⟨c, rfl⟩ : ∃ k : Nat, y = (k : Int) := ⟨y.toNat, by omega⟩
  exact twice_t n c (by omega) (by omega)
end Go.Proofs.YtmkhfonafcikdaaGreatDoor
