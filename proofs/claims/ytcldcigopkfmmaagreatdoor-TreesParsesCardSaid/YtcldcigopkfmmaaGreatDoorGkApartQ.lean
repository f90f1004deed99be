/- A book of texts, nodes, functions: none of its lists has anything in common with another one. -/
import Derived.Test.YtcldcigopkfmmaaGreatDoorGkProgQ
import Derived.Test.YtcldcigopkfmmaaGreatDoorTrD4
namespace Go.Proofs.YtcldcigopkfmmaaGreatDoor
open Go.RowKit Go.My Go.Nd

/-- Something has turned, but nothing of what was there ahead of the call. -/
def Away (w : World) (g : Tags) (w' : World) (g' : Tags) : Prop := ∃ T, Turn w g w' g' T ∧ 0 ∉ T
theorem Away.refl (w : World) (g : Tags) : Away w g w g := ⟨[], Turn.refl _ _ _, by simp⟩
theorem Away.step {w w1 w2 : World} {g g1 g2 : Tags} {T : List Nat} (h : Away w g w1 g1) (k : Turn w1 g1 w2 g2 T) (h0 : 0 ∉ T) : Away w g w2 g2 := by
  obtain ⟨V, h1, h2⟩ := h
  exact ⟨V ++ T, h1.trans k (V := V ++ T) (fun _ h => List.mem_append_left _ h) (fun _ h => List.mem_append_right _ h), fun h => (List.mem_append.1 h).elim h2 h0⟩
theorem Away.below {w0 w w' : World} {g g' : Tags} (h : Away w g w' g') (hs : Since w0 w g) : Since w0 w' g' := by
  obtain ⟨T, h1, h2⟩ := h
  exact hs.turn h1 h2
theorem Book.by_ent {κ κ' : Kd} {w w' : World} {g g' : Tags} {m bp : Nat} {cs : Array Value} {hs : List Ent} (hκ : κ.no < 8) (h : Book κ w g bp cs hs) (k : Turn w g w' g' (entTags κ' m)) : Book κ w' g' bp cs hs :=
  h.turn k (not_low _ _ _ (by decide)) (not_low _ _ _ (by decide)) (not_low _ _ _ (by unfold arrTag; omega))
theorem Filled.by_ent {κ κ' : Kd} {w w' : World} {g g' : Tags} {m i : Nat} {hs : List Ent} (hκ : κ.no < 8) (hκ' : κ'.no < 8) (hne : κ.no ≠ κ'.no) (h : Filled κ w g hs i) (k : Turn w g w' g' (entTags κ' m)) : Filled κ w' g' hs i :=
  h.turn k fun j => ent_other hκ hκ' hne j m
theorem arr_ent (κ' : Kd) (m t : Nat) (ht : t < 1000) (hne : t ≠ arrTag κ') : t ∉ arrTag κ' :: entTags κ' m := by
  intro h
  rcases List.mem_cons.1 h with h | h
  · exact hne h
  · exact not_low _ _ _ ht h
theorem Book.by_arr {κ κ' : Kd} {w w' : World} {g g' : Tags} {m bp : Nat} {cs : Array Value} {hs : List Ent} (hκ : κ.no < 8) (hκ' : κ'.no < 8) (hne : κ.no ≠ κ'.no) (h : Book κ w g bp cs hs) (k : Turn w g w' g' (arrTag κ' :: entTags κ' m)) : Book κ w' g' bp cs hs :=
  h.turn k (arr_ent κ' _ _ (by decide) (by unfold arrTag; omega)) (arr_ent κ' _ _ (by decide) (by unfold arrTag; omega)) (arr_ent κ' _ _ (by unfold arrTag; omega) (by unfold arrTag; omega))
theorem ent_arr {κ κ' : Kd} (hκ : κ.no < 8) (hκ' : κ'.no < 8) (hne : κ.no ≠ κ'.no) (j m : Nat) : entTag κ j ∉ arrTag κ' :: entTags κ' m := by
  intro h
  rcases List.mem_cons.1 h with h | h
  · unfold entTag arrTag at h; omega
  · exact ent_other hκ hκ' hne j m h
theorem GrownTo.by_arr {κ κ' : Kd} {w w' : World} {g g' : Tags} {m i : Nat} {hs : List Ent} (hκ : κ.no < 8) (hκ' : κ'.no < 8) (hne : κ.no ≠ κ'.no) (h : GrownTo κ w g hs i) (k : Turn w g w' g' (arrTag κ' :: entTags κ' m)) : GrownTo κ w' g' hs i :=
  h.turn k fun j => ent_arr hκ hκ' hne j m
theorem Filled.by_arr {κ κ' : Kd} {w w' : World} {g g' : Tags} {m i : Nat} {hs : List Ent} (hκ : κ.no < 8) (hκ' : κ'.no < 8) (hne : κ.no ≠ κ'.no) (h : Filled κ w g hs i) (k : Turn w g w' g' (arrTag κ' :: entTags κ' m)) : Filled κ w' g' hs i :=
  h.turn k fun j => ent_arr hκ hκ' hne j m
theorem zero_arr (κ : Kd) (m : Nat) : 0 ∉ arrTag κ :: entTags κ m := by
  intro h
  rcases List.mem_cons.1 h with h | h
  · unfold arrTag at h; omega
  · exact not_low _ _ _ (by decide) h
def None9 (cs : Array Value) : Prop := ∀ i, i ≠ 0 → i ≠ 3 → i ≠ 8 → i ≠ 9 → i ≤ 12 → cs[i]? = some (.slice none 0 0)
theorem None9.cell {κ : Kd} {cs : Array Value} (h : None9 cs) {w : World} {g : Tags} {bp : Nat} {hs : List Ent} (hB : Book κ w g bp cs hs) (i : Nat) (h0 : i ≠ 0) (h3 : i ≠ 3) (h8 : i ≠ 8) (h9 : i ≠ 9) (h12 : i ≤ 12) : w.cell? ⟨bp, i, none⟩ = some (.slice none 0 0) := (hB.box.cell i).1.trans (h i h0 h3 h8 h9 h12)

set_option maxRecDepth 100000 in
set_option maxHeartbeats 4000000 in
theorem apart3_t {w : World} {g : Tags} {bp : Nat} {cs : Array Value} {hT hN hF : List Ent} (bT : Book kText w g bp cs hT) (bN : Book kNode w g bp cs hN) (bF : Book kFunc w g bp cs hF) (hO : None9 cs) (fT : Filled kText w g hT 0) (fN : Filled kNode w g hN 0) (fF : Filled kFunc w g hF 0) {Q : Ending → World → Prop}
    (h : ∀ w' g', Away w g w' g' → Q (.returned (.bool true)) w') :
    Calls Tryz.prog 9 #[.pointer (some ⟨bp, 0, none⟩)] w Q := by
  have H := Lib.hid h
  have A0 := Lib.hid (Away.refl w g)
  have B0 := Lib.hid (And.intro bT (And.intro bN bF))
  have F0 := Lib.hid (And.intro fT (And.intro fN fF))
  have HO := Lib.hid hO
  clear h bT bN bF hO fT fN fF
  go_enter Tryz.func9, Tryz.ntmps9
  go_wp2_with fail
  refine fillByte_nil rfl (HO.out.cell B0.out.1 1 (by decide) (by decide) (by decide) (by decide) (by decide)) ?_
  go_wp2_with fail
  refine fillLimb_nil rfl (HO.out.cell B0.out.1 2 (by decide) (by decide) (by decide) (by decide) (by decide)) ?_
  go_wp2_with fail
  refine fill_Text B0.out.1 F0.out.1 fun w1 g1 T B F => ?_
  have A1 := Lib.hid (A0.out.step T (not_low _ _ _ (by decide)))
  have B1 := Lib.hid (And.intro B (And.intro (B0.out.2.1.by_ent (by decide) T) (B0.out.2.2.by_ent (by decide) T)))
  have F1 := Lib.hid (And.intro F (And.intro (F0.out.2.1.by_ent (by decide) (by decide) (by decide) T) (F0.out.2.2.by_ent (by decide) (by decide) (by decide) T)))
  clear T B F A0 B0 F0
  go_wp2_with fail
  refine fillToken_nil rfl (HO.out.cell B1.out.1 4 (by decide) (by decide) (by decide) (by decide) (by decide)) ?_
  go_wp2_with fail
  refine fillNum_nil rfl (HO.out.cell B1.out.1 5 (by decide) (by decide) (by decide) (by decide) (by decide)) ?_
  go_wp2_with fail
  refine fillTerm_nil rfl (HO.out.cell B1.out.1 6 (by decide) (by decide) (by decide) (by decide) (by decide)) ?_
  go_wp2_with fail
  refine fillFactor_nil rfl (HO.out.cell B1.out.1 7 (by decide) (by decide) (by decide) (by decide) (by decide)) ?_
  go_wp2_with fail
  refine fill_Node B1.out.2.1 F1.out.2.1 fun w2 g2 T B F => ?_
  have A2 := Lib.hid (A1.out.step T (not_low _ _ _ (by decide)))
  have B2 := Lib.hid (And.intro (B1.out.1.by_ent (by decide) T) (And.intro B (B1.out.2.2.by_ent (by decide) T)))
  have F2 := Lib.hid (And.intro (F1.out.1.by_ent (by decide) (by decide) (by decide) T) (And.intro F (F1.out.2.2.by_ent (by decide) (by decide) (by decide) T)))
  clear T B F A1 B1 F1
  go_wp2_with fail
  refine fill_Func B2.out.2.2 F2.out.2.2 fun w3 g3 T B F => ?_
  have A3 := Lib.hid (A2.out.step T (not_low _ _ _ (by decide)))
  have B3 := Lib.hid (And.intro (B2.out.1.by_ent (by decide) T) (And.intro (B2.out.2.1.by_ent (by decide) T) B))
  have F3 := Lib.hid (And.intro (F2.out.1.by_ent (by decide) (by decide) (by decide) T) (And.intro (F2.out.2.1.by_ent (by decide) (by decide) (by decide) T) F))
  clear T B F A2 B2 F2
  go_wp2_with fail
  refine fillValue_nil rfl (HO.out.cell B3.out.1 10 (by decide) (by decide) (by decide) (by decide) (by decide)) ?_
  go_wp2_with fail
  refine fillInstr_nil rfl (HO.out.cell B3.out.1 11 (by decide) (by decide) (by decide) (by decide) (by decide)) ?_
  go_wp2_with fail
  refine fillChunk_nil rfl (HO.out.cell B3.out.1 12 (by decide) (by decide) (by decide) (by decide) (by decide)) ?_
  go_wp2_with fail
  refine growByte_nil rfl (HO.out.cell B3.out.1 1 (by decide) (by decide) (by decide) (by decide) (by decide)) ?_
  go_wp2_with fail
  refine growLimb_nil rfl (HO.out.cell B3.out.1 2 (by decide) (by decide) (by decide) (by decide) (by decide)) ?_
  go_wp2_with fail
  refine grow_Text B3.out.1 F3.out.1.grown fun w4 g4 hT' T B L F => ?_
  have A4 := Lib.hid (A3.out.step T (zero_arr _ _))
  have B4 := Lib.hid (And.intro B (And.intro (B3.out.2.1.by_arr (by decide) (by decide) (by decide) T) (B3.out.2.2.by_arr (by decide) (by decide) (by decide) T)))
  have F4 := Lib.hid (And.intro F (And.intro (F3.out.2.1.by_arr (by decide) (by decide) (by decide) T) (F3.out.2.2.by_arr (by decide) (by decide) (by decide) T)))
  clear T B F L A3 B3 F3
  go_wp2_with fail
  refine growToken_nil rfl (HO.out.cell B4.out.1 4 (by decide) (by decide) (by decide) (by decide) (by decide)) ?_
  go_wp2_with fail
  refine growNum_nil rfl (HO.out.cell B4.out.1 5 (by decide) (by decide) (by decide) (by decide) (by decide)) ?_
  go_wp2_with fail
  refine growTerm_nil rfl (HO.out.cell B4.out.1 6 (by decide) (by decide) (by decide) (by decide) (by decide)) ?_
  go_wp2_with fail
  refine growFactor_nil rfl (HO.out.cell B4.out.1 7 (by decide) (by decide) (by decide) (by decide) (by decide)) ?_
  go_wp2_with fail
  refine grow_Node B4.out.2.1 F4.out.2.1.grown fun w5 g5 hN' T B L F => ?_
  have A5 := Lib.hid (A4.out.step T (zero_arr _ _))
  have B5 := Lib.hid (And.intro (B4.out.1.by_arr (by decide) (by decide) (by decide) T) (And.intro B (B4.out.2.2.by_arr (by decide) (by decide) (by decide) T)))
  have F5 := Lib.hid (And.intro (F4.out.1.by_arr (by decide) (by decide) (by decide) T) (And.intro F (F4.out.2.2.by_arr (by decide) (by decide) (by decide) T)))
  clear T B F L A4 B4 F4
  go_wp2_with fail
  refine grow_Func B5.out.2.2 F5.out.2.2.grown fun w6 g6 hF' T B L F => ?_
  have A6 := Lib.hid (A5.out.step T (zero_arr _ _))
  have B6 := Lib.hid (And.intro (B5.out.1.by_arr (by decide) (by decide) (by decide) T) (And.intro (B5.out.2.1.by_arr (by decide) (by decide) (by decide) T) B))
  have F6 := Lib.hid (And.intro (F5.out.1.by_arr (by decide) (by decide) (by decide) T) (And.intro (F5.out.2.1.by_arr (by decide) (by decide) (by decide) T) F))
  clear T B F L A5 B5 F5
  go_wp2_with fail
  refine growValue_nil rfl (HO.out.cell B6.out.1 10 (by decide) (by decide) (by decide) (by decide) (by decide)) ?_
  go_wp2_with fail
  refine growInstr_nil rfl (HO.out.cell B6.out.1 11 (by decide) (by decide) (by decide) (by decide) (by decide)) ?_
  go_wp2_with fail
  refine growChunk_nil rfl (HO.out.cell B6.out.1 12 (by decide) (by decide) (by decide) (by decide) (by decide)) ?_
  go_wp2_with fail
  refine (lookByte_nil rfl (HO.out.cell B6.out.1 1 (by decide) (by decide) (by decide) (by decide) (by decide))).mono ?_
  rintro e w' ⟨rfl, hw⟩
  obtain rfl : w6 = w' := hw.symm
  go_wp2_with fail
  refine (lookLimb_nil rfl (HO.out.cell B6.out.1 2 (by decide) (by decide) (by decide) (by decide) (by decide))).mono ?_
  rintro e w' ⟨rfl, hw⟩
  obtain rfl : w6 = w' := hw.symm
  go_wp2_with fail
  refine look_Text B6.out.1 F6.out.1 fun w7 g7 T B => ?_
  have A7 := Lib.hid (A6.out.step T (by simp))
  have B7 := Lib.hid (And.intro B (And.intro (B6.out.2.1.turn T (by simp) (by simp) (by simp)) (B6.out.2.2.turn T (by simp) (by simp) (by simp))))
  have F7 := Lib.hid (And.intro (F6.out.1.turn T (fun _ => by simp)) (And.intro (F6.out.2.1.turn T (fun _ => by simp)) (F6.out.2.2.turn T (fun _ => by simp))))
  clear T B A6 B6 F6
  go_wp2_with fail
  refine (lookToken_nil rfl (HO.out.cell B7.out.1 4 (by decide) (by decide) (by decide) (by decide) (by decide))).mono ?_
  rintro e w' ⟨rfl, hw⟩
  obtain rfl : w7 = w' := hw.symm
  go_wp2_with fail
  refine (lookNum_nil rfl (HO.out.cell B7.out.1 5 (by decide) (by decide) (by decide) (by decide) (by decide))).mono ?_
  rintro e w' ⟨rfl, hw⟩
  obtain rfl : w7 = w' := hw.symm
  go_wp2_with fail
  refine (lookTerm_nil rfl (HO.out.cell B7.out.1 6 (by decide) (by decide) (by decide) (by decide) (by decide))).mono ?_
  rintro e w' ⟨rfl, hw⟩
  obtain rfl : w7 = w' := hw.symm
  go_wp2_with fail
  refine (lookFactor_nil rfl (HO.out.cell B7.out.1 7 (by decide) (by decide) (by decide) (by decide) (by decide))).mono ?_
  rintro e w' ⟨rfl, hw⟩
  obtain rfl : w7 = w' := hw.symm
  go_wp2_with fail
  refine look_Node B7.out.2.1 F7.out.2.1 fun w8 g8 T B => ?_
  have A8 := Lib.hid (A7.out.step T (by simp))
  have B8 := Lib.hid (And.intro (B7.out.1.turn T (by simp) (by simp) (by simp)) (And.intro B (B7.out.2.2.turn T (by simp) (by simp) (by simp))))
  have F8 := Lib.hid (And.intro (F7.out.1.turn T (fun _ => by simp)) (And.intro (F7.out.2.1.turn T (fun _ => by simp)) (F7.out.2.2.turn T (fun _ => by simp))))
  clear T B A7 B7 F7
  go_wp2_with fail
  refine look_Func B8.out.2.2 F8.out.2.2 fun w9 g9 T B => ?_
  have A9 := Lib.hid (A8.out.step T (by simp))
  have B9 := Lib.hid (And.intro (B8.out.1.turn T (by simp) (by simp) (by simp)) (And.intro (B8.out.2.1.turn T (by simp) (by simp) (by simp)) B))
  have F9 := Lib.hid (And.intro (F8.out.1.turn T (fun _ => by simp)) (And.intro (F8.out.2.1.turn T (fun _ => by simp)) (F8.out.2.2.turn T (fun _ => by simp))))
  clear T B A8 B8 F8
  go_wp2_with fail
  refine (lookValue_nil rfl (HO.out.cell B9.out.1 10 (by decide) (by decide) (by decide) (by decide) (by decide))).mono ?_
  rintro e w' ⟨rfl, hw⟩
  obtain rfl : w9 = w' := hw.symm
  go_wp2_with fail
  refine (lookInstr_nil rfl (HO.out.cell B9.out.1 11 (by decide) (by decide) (by decide) (by decide) (by decide))).mono ?_
  rintro e w' ⟨rfl, hw⟩
  obtain rfl : w9 = w' := hw.symm
  go_wp2_with fail
  refine (lookChunk_nil rfl (HO.out.cell B9.out.1 12 (by decide) (by decide) (by decide) (by decide) (by decide))).mono ?_
  rintro e w' ⟨rfl, hw⟩
  obtain rfl : w9 = w' := hw.symm
  go_wp2_with fail
  exact H.out _ _ A9.out

/-! Owners named anew: each block of the book's lists gets one of its own. -/
theorem idx_of : ∀ (ks : List (Option Nat)) (j b : Nat), (ks.flatMap (·.toList)).Nodup → ks[j]? = some (some b) → ks.idxOf (some b) = j := by
  intro ks
  induction ks with
  | nil => intro j b _ h; simp at h
  | cons k ks ih =>
    intro j b hn h
    rw [List.flatMap_cons] at hn
    have hn' := List.nodup_append.1 hn
    cases j with
    | zero =>
      have : k = some b := by simpa using h
      subst this
      simp
    | succ j =>
      have h' : ks[j]? = some (some b) := by simpa using h
      have hm : b ∈ ks.flatMap (·.toList) := List.mem_flatMap.2 ⟨some b, List.mem_of_getElem? h', by simp⟩
      have hne : k ≠ some b := fun e => by subst e; exact hn'.2.2 b (by simp) b hm rfl
      have hk : (k == some b) = false := by simpa using hne
      rw [List.idxOf_cons, hk, ih j b hn'.2.1 h']
      rfl
def retag (ks : List (Option Nat)) (κ : Kd) (g : Tags) : Tags := fun b => if some b ∈ ks then entTag κ (ks.idxOf (some b)) else g b
theorem mem_ks {ks : List (Option Nat)} {b : Nat} : some b ∈ ks ↔ b ∈ ks.flatMap (·.toList) := by
  constructor
  · intro h; exact List.mem_flatMap.2 ⟨some b, h, by simp⟩
  · intro h
    obtain ⟨k, hk, hb⟩ := List.mem_flatMap.1 h
    have : k = some b := by simpa using hb
    rwa [this] at hk
theorem HeldK.filled {κ : Kd} {w : World} {g : Tags} {es : List Ent} {ks : List (Option Nat)} (h1 : ks.length = es.length) (h2 : ∀ j (h : j < es.length) (h' : j < ks.length), ∃ ys, Go.My.Own w κ.et κ.size es[j].v es[j].n ys ks[j]) (hg : ∀ j (h : j < ks.length) b, ks[j] = some b → g b = entTag κ j) : Filled κ w g es 0 := by
  intro j hj
  rw [if_neg (Nat.not_lt_zero _)]
  obtain ⟨ys, ho⟩ := h2 j hj (by omega)
  exact ⟨ys, ks[j]'(by omega), ho, fun b hb => hg j (by omega) b hb⟩
theorem Owns.to' {w : World} {g g2 : Tags} {t : Nat} {e : TypeId} {size : Nat} {v : Value} {n : Nat} {xs : List Value} (h : Owns w g t e size v n xs) (hg : ∀ b, g b = t → g2 b = t) : Owns w g2 t e size v n xs := by
  obtain ⟨r, ho, hr⟩ := h
  exact ⟨r, ho, fun b hb => hg b (hr b hb)⟩
theorem Book.to' {κ : Kd} {w : World} {g g2 : Tags} {bp : Nat} {cs : Array Value} {hs : List Ent} (h : Book κ w g bp cs hs) (hg : ∀ b, g b = 0 ∨ 800 ≤ g b → g2 b = g b) : Book κ w g2 bp cs hs := by
  obtain ⟨vb, h1, h2⟩ := h.arr
  obtain ⟨B, t1, t2, t3⟩ := h.tab
  exact ⟨⟨h.box.1, (hg _ (.inr (by rw [h.box.2]; decide))).trans h.box.2⟩, ⟨vb, h1, Owns.to' h2 fun b hb => (hg b (.inr (by rw [hb]; unfold arrTag; omega))).trans hb⟩, h.few, h.ok, ⟨B, t1, fun b hb => (hg b (.inl (t2 b hb))).trans (t2 b hb), t3⟩⟩

/-- ALL OF IT: lists in blocks of their own, each once: the book finds them apart. -/
theorem bk3_apart {w : World} {g : Tags} {bp tot : Nat} {cs : Array Value} {hT hN hF : List Ent} {F : List Nat} (hB : Bk3 w g bp tot cs hT hN hF) (hH : Held3 w hT hN hF F) (hn : F.Nodup) (hg : ∀ b ∈ F, 0 < g b ∧ g b < 800) {w0 : World} (hS : Since w0 w g) {Q : Ending → World → Prop}
    (h : ∀ w', Below w0.heap.size w0 w' → Q (.returned (.bool true)) w') :
    Calls Tryz.prog 9 #[.pointer (some ⟨bp, 0, none⟩)] w Q := by
  obtain ⟨FT, FN, FF, ⟨kt, l1, o1, p1⟩, ⟨kn, l2, o2, p2⟩, ⟨kf, l3, o3, p3⟩, hp⟩ := hH
  have hall : (kt.flatMap (·.toList) ++ (kn.flatMap (·.toList) ++ kf.flatMap (·.toList))).Perm F := (p1.append (p2.append p3)).trans hp
  have hnd := hall.nodup_iff.2 hn
  obtain ⟨n1, n23, d1⟩ := List.nodup_append.1 hnd
  obtain ⟨n2, n3, d2⟩ := List.nodup_append.1 n23
  have e1 : ∀ b, some b ∈ kt → some b ∉ kn ∧ some b ∉ kf := fun b hb => ⟨fun h => d1 b (mem_ks.1 hb) b (List.mem_append_left _ (mem_ks.1 h)) rfl, fun h => d1 b (mem_ks.1 hb) b (List.mem_append_right _ (mem_ks.1 h)) rfl⟩
  have e2 : ∀ b, some b ∈ kn → some b ∉ kf := fun b hb h => d2 b (mem_ks.1 hb) b (mem_ks.1 h) rfl
  have inF : ∀ b, some b ∈ kt ∨ some b ∈ kn ∨ some b ∈ kf → b ∈ F := fun b hb => hall.mem_iff.1 (by
    rcases hb with hb | hb | hb
    · exact List.mem_append_left _ (mem_ks.1 hb)
    · exact List.mem_append_right _ (List.mem_append_left _ (mem_ks.1 hb))
    · exact List.mem_append_right _ (List.mem_append_right _ (mem_ks.1 hb)))
  obtain ⟨g2, hg2⟩ : ∃ g2, g2 = retag kt kText (retag kn kNode (retag kf kFunc g)) := ⟨_, rfl⟩
  have keep : ∀ b, g b = 0 ∨ 800 ≤ g b → g2 b = g b := fun b hb => by
    have hnF : b ∉ F := fun h => by have := hg b h; omega
    rw [hg2]
    unfold retag
    rw [if_neg fun h => hnF (inF b (.inl h)), if_neg fun h => hnF (inF b (.inr (.inl h))), if_neg fun h => hnF (inF b (.inr (.inr h)))]
  have fT : Filled kText w g2 hT 0 := HeldK.filled l1 o1 fun j hj b hb => by
    have hm : some b ∈ kt := by rw [← hb]; exact List.getElem_mem hj
    rw [hg2]
    unfold retag
    rw [if_pos hm, idx_of kt j b n1 (by rw [List.getElem?_eq_getElem hj, hb])]
  have fN : Filled kNode w g2 hN 0 := HeldK.filled l2 o2 fun j hj b hb => by
    have hm : some b ∈ kn := by rw [← hb]; exact List.getElem_mem hj
    rw [hg2]
    unfold retag
    rw [if_neg fun h => (e1 b h).1 hm, if_pos hm, idx_of kn j b n2 (by rw [List.getElem?_eq_getElem hj, hb])]
  have fF : Filled kFunc w g2 hF 0 := HeldK.filled l3 o3 fun j hj b hb => by
    have hm : some b ∈ kf := by rw [← hb]; exact List.getElem_mem hj
    rw [hg2]
    unfold retag
    rw [if_neg fun h => (e1 b h).2 hm, if_neg fun h => e2 b h hm, if_pos hm, idx_of kf j b n3 (by rw [List.getElem?_eq_getElem hj, hb])]
  have hS2 : Since w0 w g2 := ⟨hS.below, fun b hb => (keep b (.inl (hS.zero b hb))).trans (hS.zero b hb)⟩
  exact apart3_t (hB.t.to' keep) (hB.n.to' keep) (hB.f.to' keep) hB.none_ fT fN fF fun w' g' ha => h w' (ha.below hS2).below

/-- A new book. -/
theorem bk3_new (w : World) (g : Tags) (hT : Tab w g) : Bk3 (w.alloc (.cells #[.int .i64 0, .slice none 0 0, .slice none 0 0, .slice none 0 0, .slice none 0 0, .slice none 0 0, .slice none 0 0, .slice none 0 0, .slice none 0 0, .slice none 0 0, .slice none 0 0, .slice none 0 0, .slice none 0 0] 40)) (g.ext w.heap.size 801) w.heap.size 0
    #[.int .i64 0, .slice none 0 0, .slice none 0 0, .slice none 0 0, .slice none 0 0, .slice none 0 0, .slice none 0 0, .slice none 0 0, .slice none 0 0, .slice none 0 0, .slice none 0 0, .slice none 0 0, .slice none 0 0] [] [] [] := by
  have b := Bx.alloc w g 40 801 #[.int .i64 0, .slice none 0 0, .slice none 0 0, .slice none 0 0, .slice none 0 0, .slice none 0 0, .slice none 0 0, .slice none 0 0, .slice none 0 0, .slice none 0 0, .slice none 0 0, .slice none 0 0, .slice none 0 0]
  have t := hT.turn (Turn.alloc w g 801 (.cells #[.int .i64 0, .slice none 0 0, .slice none 0 0, .slice none 0 0, .slice none 0 0, .slice none 0 0, .slice none 0 0, .slice none 0 0, .slice none 0 0, .slice none 0 0, .slice none 0 0, .slice none 0 0, .slice none 0 0] 40)) (by simp)
  refine ⟨⟨b, ⟨_, rfl, Owns.nil _ _ _ _ _⟩, Nat.zero_le _, (fun x hx => by cases hx), t⟩, ⟨b, ⟨_, rfl, Owns.nil _ _ _ _ _⟩, Nat.zero_le _, (fun x hx => by cases hx), t⟩, ⟨b, ⟨_, rfl, Owns.nil _ _ _ _ _⟩, Nat.zero_le _, (fun x hx => by cases hx), t⟩, rfl, fun i h0 h3 h8 h9 h12 => ?_, Nat.le_refl _, Nat.le_refl _, Nat.le_refl _⟩
  obtain rfl | rfl | rfl | rfl | rfl | rfl | rfl | rfl | rfl : i = 1 ∨ i = 2 ∨ i = 4 ∨ i = 5 ∨ i = 6 ∨ i = 7 ∨ i = 10 ∨ i = 11 ∨ i = 12 := by omega
  all_goals rfl
end Go.Proofs.YtcldcigopkfmmaaGreatDoor
