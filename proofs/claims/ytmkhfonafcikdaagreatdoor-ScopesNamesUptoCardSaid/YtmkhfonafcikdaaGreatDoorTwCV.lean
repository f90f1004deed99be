/- Programs: twins of lists of texts; whether they are as they were. -/
import Derived.Test.YtmkhfonafcikdaaGreatDoorTwBV
namespace Go.My
open Go.RowKit Go.Nd
def txc (t : List UInt8) : Value := .string (tx t)
/-- The cells with the mark behind read as the texts. -/
theorem texts_made {w w2 : World} {g2 : Tags} {e : TypeId} {b off c n : Nat} {ts : List (List UInt8)} (hn : n = ts.length) (hS : Since w w2 g2) (hl : ∀ t ∈ ts, t.length ≤ 140737488351232)
    (hO : Owns w2 g2 2 e 1 (.slice (some ⟨b, off, none⟩) (n + 1) c) (n + 1) (ts.map txc ++ [.string (tx spare)])) (hR : n * 16 ≤ 140737488351232) :
    TextsIn w2 (fun b => w.heap.size ≤ b) true (.slice (some ⟨b, off, none⟩) n c) ts := by
  subst hn
  have new : ∀ k t, t ≠ 0 → g2 k = t → w.heap.size ≤ k := fun k t ht hk => Nat.le_of_not_lt fun hlt => ht (hk.symm.trans (hS.zero k hlt))
  obtain ⟨b', off', c', hv, hg, h1, h2, _, hc⟩ := hO.cell (Nat.succ_pos _)
  cases hv
  have hb := new b 2 (by decide) hg
  refine ⟨_, c, rfl, by omega, h2, hR, fun _ => ⟨by omega, b, off, rfl, hb, ?_⟩, fun i hi => ⟨b, off, rfl, hb, ?_, hl _ (List.getElem_mem hi)⟩⟩
  · rw [(hc ts.length (by omega)).1, List.getElem?_append_right (by simp)]; simp
  · rw [(hc i (by omega)).1, List.getElem?_append_left (by simpa using hi)]; simp [hi, txc]
end Go.My
namespace Go.Proofs.YtmkhfonafcikdaaGreatDoor
open Go.RowKit Go.My Go.Nd

theorem strElem : Elem Tryz.prog 32 9 1 16 (.string ⟨#[]⟩) := Elem.mk' Tryz.underlying32 (by kernel_rfl) rfl (by decide)

def FreshT (w w' : World) (v : Value) (ts : List (List UInt8)) : Prop := TextsIn w' (fun b => w.heap.size ≤ b) true v ts
theorem FreshT.later {w w1 w2 : World} {v : Value} {x : List (List UInt8)} (h : FreshT w w1 v x) (hb : Below w1.heap.size w1 w2) : FreshT w w2 v x := TextsIn.frame h fun b _ hlt => hb.block b hlt

theorem tr_made {w w2 : World} {g2 : Tags} {b off c n : Nat} {ts : List (List UInt8)} {mk : List Value} (hn : n = ts.length) (hS : Since w w2 g2) (hl : ∀ t ∈ ts, t.length ≤ 140737488351232)
    (hO : Owns w2 g2 2 9 1 (.slice (some ⟨b, off, none⟩) (n + 1) c) (n + 1) (ts.map txc ++ mk)) (hR : n * 16 ≤ 140737488351232) : TR w2 w.heap.size w2.heap.size (.slice (some ⟨b, off, none⟩) n c) ts := by
  subst hn
  obtain ⟨k, ho, hk⟩ := hO.lessN (by simp)
  refine ⟨k.toList, ⟨k, rfl, ho, hR, hl⟩, by cases k <;> simp, fun a ha => ?_⟩
  have h6 := hk a (by simpa using ha)
  exact ⟨Nat.le_of_not_lt fun hlt => by have := hS.zero a hlt; omega, ho.lt a (by simpa using ha)⟩

def TTAt (w : World) (ts : List (List UInt8)) (gk : Nat) (v2 v3 : Value) (wr : World) : Prop :=
  ∃ (k : Nat) (a : Option Addr) (c : Nat) (g : Tags), k ≤ ts.length ∧ gk = ts.length - k ∧ v2 = .slice a k c ∧ v3 = .int .i64 (k : Int) ∧ Since w wr g ∧ Owns wr g 2 9 1 (.slice a k c) k ((ts.take k).map txc)

set_option maxRecDepth 100000 in
set_option maxHeartbeats 4000000 in
theorem twin_texts {w : World} {B : Nat} {v : Value} {ts : List (List UInt8)} (hB : B ≤ w.heap.size) (hv : TextsIn w (· < B) false v ts) {Q : Ending → World → Prop}
    (h : ∀ v' w', Below w.heap.size w w' → FreshT w w' v' ts ∧ TR w' w.heap.size w'.heap.size v' ts → Q (.returned v') w') : Calls Tryz.prog 147 #[v] w Q := by
  obtain ⟨a0, cp, hf, h1, h2, h3, _, h5⟩ := hv
  subst hf
  have H := Lib.hid h
  have HC := Lib.hid h5
  have HB := Lib.hid hB
  have hll : ∀ t ∈ ts, t.length ≤ 140737488351232 := fun t ht => by
    obtain ⟨i, hi, rfl⟩ := List.getElem_of_mem ht
    obtain ⟨_, _, _, _, _, h⟩ := h5 i hi
    exact h
  have HL := Lib.hid hll
  have l0 : (0 : Int) ≤ (ts.length : Int) := by omega
  have l1 : (ts.length : Int) * 16 ≤ 140737488351232 := by omega
  clear h h1 h2 h3 h5 hB hll
  go_enter Tryz.func147, Tryz.ntmps147
  go_wp2_with (refine wpList_make_t _ rfl (.const (.int .i64 0)) (.tmp 7) rfl strElem (cn := ts.length + 1) (fun _ => 0) 2 rfl rfl (by omega) (by omega) (by unfold maxLen; omega) ?_; intro bm w0 g0 O0 T0; have X0 := Lib.hid (And.intro ((Since.start w).turn T0 (by decide)) O0); clear O0 T0)
  go_loopg [3, 4] ts.length (fun gk v2 v3 wr => TTAt w ts gk v2 v3 wr)
  case atStart => exact ⟨0, _, _, g0, Nat.zero_le _, rfl, rfl, rfl, X0.out.1, X0.out.2⟩
  case round =>
    obtain ⟨k, a, c, g1, hk, rfl, rfl, rfl, hS, hO⟩ := hrel
    have k0 : (0 : Int) ≤ (k : Int) := by omega
    have X := Lib.hid (And.intro hS hO)
    clear hO X0
    by_cases hlt : k < ts.length
    · have k1 : (k : Int) < (ts.length : Int) := by omega
      obtain ⟨b, off, rfl, hb, hc, _⟩ := HC.out k hlt
      have c0 : wr.cell? ⟨b, off + k, none⟩ = some (.string (tx ts[k])) := (World.cell?_of_block (hS.below.block b (Nat.lt_of_lt_of_le hb HB.out))).trans hc
      have e1 : ((ts.take (k + 1)).map txc) = (ts.take k).map txc ++ [.string (tx ts[k])] := by
        rw [List.take_succ_eq_append_getElem hlt, List.map_append]; rfl
      generalize ts[k] = y at *
      have T4 := Turn.alloc wr g1 3 (.cells #[.string (tx y)] 9)
      have X4 := Lib.hid (And.intro (X.out.1.turn T4 (by decide)) (And.intro (X.out.2.turn T4 (by decide)) e1))
      have hL := Lib.hid hlt
      clear T4 e1 hc hk hlt hb hS
      go_wp2_with (at_builtin; refine wpList_append_t _ rfl (.tmp 15) (.tmp 20) rfl strElem (v := .slice a k c) (y := .slice (some ⟨wr.heap.size, 0, none⟩) 1 1) rfl X4.out.2.1 rfl (Src.lit #[.string (tx y)] 9 rfl rfl) (by simp [Value.oneCell']) (by unfold maxLen; omega) (by omega) ?_; intro a2 c2 w2 g2 O2 T2; have X2 := Lib.hid (And.intro O2 T2); clear O2 T2)
      have X7 := Lib.hid (And.intro (X4.out.1.turn X2.out.2 (by decide)) (show Owns w2 g2 2 9 1 (.slice a2 (k + 1) c2) (k + 1) ((ts.take (k + 1)).map txc) by rw [X4.out.2.2]; exact X2.out.1))
      clear X4 X2
      go_roundg (ts.length - (k + 1))
      case measure => have := hL.out; omega
      case rel => exact ⟨k + 1, a2, c2, g2, hL.out, rfl, rfl, by go_num, X7.out.1, X7.out.2⟩
    · obtain rfl : k = ts.length := by omega
      have T4 := Turn.alloc wr g1 3 (.cells #[.string (tx spare)] 9)
      have X4 := Lib.hid (And.intro (X.out.1.turn T4 (by decide)) (X.out.2.turn T4 (by decide)))
      clear T4 hlt hk hS
      go_wp2_with (at_builtin; refine wpList_append_t _ rfl (.tmp 22) (.tmp 23) rfl strElem (v := .slice a ts.length c) (y := .slice (some ⟨wr.heap.size, 0, none⟩) 1 1) rfl X4.out.2 rfl (Src.lit #[.string (tx spare)] 9 rfl rfl) (by simp [Value.oneCell']) (by unfold maxLen; omega) (by omega) ?_; intro a2 c2 w2 g2 O2 T2; obtain ⟨b3, off3, cap3, hv3, hcc, hcap3⟩ := owns_someN O2; subst hv3; subst hcc; have X2 := Lib.hid (And.intro O2 T2); clear O2 T2; have hsl := slice_hs (P := Tryz.prog) (size := 1) Tryz.underlying32 (by kernel_rfl) b3 off3 (ts.length + 1) cap3 ts.length (ts.length : Int) rfl (by omega))
      have hO := X2.out.1
      rw [List.take_length] at hO
      have hS2 := X4.out.1.turn X2.out.2 (by decide)
      exact H.out _ w2 hS2.below ⟨texts_made rfl hS2 HL.out hO (by omega), tr_made rfl hS2 HL.out hO (by omega)⟩

def LeftAtT (w : World) (n gk : Nat) (v3 : Value) (wr : World) : Prop := ∃ k q : Nat, k ≤ n ∧ gk = n - k ∧ v3 = .int .i64 (k : Int) ∧ wr = w.drewN q

set_option maxHeartbeats 4000000 in
theorem left_texts {w : World} {S : Nat → Prop} {tv v : Value} {ts : List (List UInt8)} (ht : TextsIn w S true tv ts) (hv : TextsIn w S false v ts) :
    Calls Tryz.prog 154 #[tv, v] w fun e w' => e = .returned (.bool true) ∧ Below w.heap.size w w' := by
  obtain ⟨a0, cp, hf, h1, h2, h3, _, h5⟩ := hv
  subst hf
  obtain ⟨ta, ct, hf, t1, t2, t3, t4, t5⟩ := ht
  subst hf
  obtain ⟨hct, bt, ot, rfl, _, hmk⟩ := t4 rfl
  have HC := Lib.hid h5
  have HT := Lib.hid t5
  have l0 : (0 : Int) ≤ (ts.length : Int) := by omega
  have l1 : (ts.length : Int) * 16 ≤ 140737488351232 := by omega
  have l2 : (ts.length : Int) < (ct : Int) := by omega
  have hsl := slice_hs (P := Tryz.prog) (size := 1) Tryz.underlying32 (by kernel_rfl) bt ot ts.length ct (ts.length + 1) ((ts.length : Int) + 1) rfl hct
  clear h1 h2 h3 h5 t1 t2 t3 t4 t5 hct
  go_enter Tryz.func154, Tryz.ntmps154
  go_wp2_with fail
  go_loopg [5] ts.length (fun gk v3 wr => LeftAtT w ts.length gk v3 wr)
  case atStart => exact ⟨0, 0, Nat.zero_le _, rfl, rfl, rfl⟩
  case round =>
    obtain ⟨k, q, hk, rfl, rfl, rfl⟩ := hrel
    have k0 : (0 : Int) ≤ (k : Int) := by omega
    by_cases hlt : k < ts.length
    · have k1 : (k : Int) < (ts.length : Int) := by omega
      obtain ⟨b1, off1, hb, _, c0, _⟩ := HC.out k hlt
      subst hb
      obtain ⟨b2, off2, hb, _, c1, _⟩ := HT.out k hlt
      cases hb
      generalize ts[k] = y at *
      go_wp2_with fail
      go_quiet (fail)
      go_wp2
      go_roundg (ts.length - (k + 1))
      case measure => omega
      case rel => exact ⟨k + 1, q + nq, by omega, rfl, by go_num, rfl⟩
    · obtain rfl : k = ts.length := by omega
      clear hlt hk
      go_wp2_with fail
      go_ret
      exact ⟨by simp [tx, spare], below_drewN' w q⟩
end Go.Proofs.YtmkhfonafcikdaaGreatDoor
