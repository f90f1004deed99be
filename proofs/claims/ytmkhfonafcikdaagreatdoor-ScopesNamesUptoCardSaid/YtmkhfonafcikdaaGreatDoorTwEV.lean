/- Programs: twins of lists of functions, of a program. -/
import Derived.Test.YtmkhfonafcikdaaGreatDoorTwDV
namespace Go.Proofs.YtmkhfonafcikdaaGreatDoor
open Go.RowKit Go.My Go.Nd

def FreshF (w w' : World) (v : Value) (fs : List Nd.Fn) : Prop := FuncsIn w' (fun b => w.heap.size ≤ b) true v fs
theorem FreshF.later {w w1 w2 : World} {v : Value} {x : List Nd.Fn} (h : FreshF w w1 v x) (hb : Below w1.heap.size w1 w2) : FreshF w w2 v x := FuncsIn.frame h fun b _ hlt => hb.block b hlt
theorem freshF_at {w wa wb w3 wz : World} {v : Value} {x : List Nd.Fn} {c : Nat} (f : FreshF wa wb v x) (hb : Below wb.heap.size wb w3) (ho : ∀ k, k ≠ c → wz.heap[k]? = w3.heap[k]?) (hc : c < wa.heap.size) (hw : w.heap.size ≤ wa.heap.size) : FreshF w wz v x :=
  FuncsIn.mono (FuncsIn.frame (f.later hb) fun b hS _ => ho b (by have : wa.heap.size ≤ b := hS; omega)) fun b _ hS => Nat.le_trans hw hS

/-- Of the first functions' twins: the blocks of all lists in them. -/
def FE (w : World) (g : Tags) (lo : Nat) (els : List Fl) (fs : List Nd.Fn) : Prop :=
  ∃ fvs : List FV, fvs.map (·.f) = fs.take els.length ∧ fvs.flatMap FV.cells = flCells els ∧ (∀ x ∈ fvs, x.Ok w) ∧ InR lo w.heap.size (fvs.flatMap fun x => x.F1 ++ x.F2) ∧ ∀ b ∈ fvs.flatMap (fun x => x.F1 ++ x.F2), g b = 1
theorem FE.nil (w : World) (g : Tags) (lo : Nat) (fs : List Nd.Fn) : FE w g lo [] fs := ⟨[], rfl, rfl, (fun x h => by cases h), InR.nil _ _, fun b h => by cases h⟩
theorem FE.turn {w w' : World} {g g' : Tags} {V : List Nat} {lo : Nat} {els : List Fl} {fs : List Nd.Fn} (h : FE w g lo els fs) (k : Turn w g w' g' V) (h1 : 1 ∉ V) : FE w' g' lo els fs := by
  obtain ⟨fvs, h2, h3, h4, h5, h6⟩ := h
  refine ⟨fvs, h2, h3, fun x hx => (h4 x hx).frame fun b hb => ?_, h5.mono (Nat.le_refl _) k.size, fun b hb => (k.old b (h5.2 b hb).2).trans (h6 b hb)⟩
  have hm : b ∈ fvs.flatMap (fun x => x.F1 ++ x.F2) := List.mem_flatMap.2 ⟨x, hx, hb⟩
  exact k.block b (h5.2 b hm).2 (by rw [h6 b hm]; exact h1)
theorem FE.snoc {w w1 : World} {g g1 : Tags} {lo : Nat} {els : List Fl} {fs : List Nd.Fn} {e : Fl} {x : FV} (h : FE w g lo els fs) (hlo : lo ≤ w.heap.size) (k : Turn w g w1 g1 []) (hlt : els.length < fs.length) (hx : x.Ok w1) (hf : x.f = fs[els.length]) (hc : x.cells = e.cells) (hr : InR w.heap.size w1.heap.size (x.F1 ++ x.F2)) (hg : ∀ b ∈ x.F1 ++ x.F2, g1 b = 1) : FE w1 g1 lo (els ++ [e]) fs := by
  obtain ⟨fvs, h2, h3, h4, h5, h6⟩ := h
  refine ⟨fvs ++ [x], ?_, ?_, fun y hy => ?_, ?_, fun b hb => ?_⟩
  · rw [List.map_append, h2, List.length_append, List.length_singleton, List.take_succ_eq_append_getElem hlt, ← hf]; rfl
  · rw [List.flatMap_append, h3, List.flatMap_singleton, hc, flCells_append]; simp [flCells]
  · rcases List.mem_append.1 hy with hy | hy
    · refine (h4 y hy).frame fun b hb => k.block b (h5.2 b (List.mem_flatMap.2 ⟨y, hy, hb⟩)).2 (by simp)
    · rw [List.mem_singleton.1 hy]; exact hx
  · rw [List.flatMap_append, List.flatMap_singleton]; exact h5.app hr hlo k.size
  · rw [List.flatMap_append, List.flatMap_singleton] at hb
    rcases List.mem_append.1 hb with hb | hb
    · exact (k.old b (h5.2 b hb).2).trans (h6 b hb)
    · exact hg b hb
theorem fs_made {w w2 : World} {g2 : Tags} {b off c n : Nat} {els : List Fl} {fs : List Nd.Fn} {mk : List Value} (hn : n = fs.length) (hE : els.length = n) (hS : Since w w2 g2) (hA : FE w2 g2 w.heap.size els fs)
    (hO : Owns w2 g2 2 57 3 (.slice (some ⟨b, off, none⟩) (n + 1) c) (n + 1) (flCells els ++ mk)) (hR : n * 64 ≤ 140737488351232) : FsR w2 w.heap.size w2.heap.size (.slice (some ⟨b, off, none⟩) n c) fs := by
  obtain ⟨k, ho, hk⟩ := hO.lessN (by rw [flCells_length, hE])
  obtain ⟨fvs, h2, h3, h4, h5, h6⟩ := hA
  have hlen : fvs.length = n := by have := congrArg List.length h2; rw [List.length_map, List.length_take, hE, ← hn, Nat.min_self] at this; exact this
  refine ⟨_, ⟨fvs, k, rfl, by rw [h2, hE, hn, List.take_length], by rw [hlen, h3]; exact ho, by rw [hlen]; exact hR, h4⟩, ?_, ?_⟩
  · refine List.nodup_append.2 ⟨by cases k <;> simp, h5.1, fun a ha b hb e => ?_⟩
    subst e
    have h7 := h6 a hb
    have h8 := hk a (by simpa using ha)
    omega
  · intro a ha
    rcases List.mem_append.1 ha with ha | ha
    · have h8 := hk a (by simpa using ha)
      exact ⟨Nat.le_of_not_lt fun hlt => by have := hS.zero a hlt; omega, ho.lt a (by simpa using ha)⟩
    · exact h5.2 a ha

def TFAt (w : World) (fs : List Nd.Fn) (gk : Nat) (v2 v3 : Value) (wr : World) : Prop :=
  ∃ (k : Nat) (a : Option Addr) (c : Nat) (g : Tags) (els : List Fl), k ≤ fs.length ∧ gk = fs.length - k ∧ v2 = .slice a k c ∧ v3 = .int .i64 (k : Int) ∧ Since w wr g ∧ Owns wr g 2 57 3 (.slice a k c) k (flCells els) ∧ els.length = k ∧ FlsAre wr g els fs ∧ FE wr g w.heap.size els fs

theorem freshT_tag {w w' : World} {g : Tags} {v : Value} {x : List (List UInt8)} (f : FreshT w w' v x) : TextsIn w' (fun b => g.ext w.heap.size 1 b = 1) true v x := TextsIn.mono f fun _ _ hb => Tags.ext_new _ _ _ _ hb

set_option maxRecDepth 100000 in
set_option maxHeartbeats 4000000 in
theorem twin_funcs {w : World} {B : Nat} {v : Value} {fs : List Nd.Fn} (hB : B ≤ w.heap.size) (hv : FuncsIn w (· < B) false v fs) {Q : Ending → World → Prop}
    (h : ∀ v' w', Below w.heap.size w w' → FreshF w w' v' fs ∧ FsR w' w.heap.size w'.heap.size v' fs → Q (.returned v') w') : Calls Tryz.prog 30 #[v] w Q := by
  obtain ⟨a0, cp, hf, h1, h2, h3, _, hcell⟩ := hv
  subst hf
  have H := Lib.hid h
  have HC := Lib.hid hcell
  have HB := Lib.hid hB
  have l0 : (0 : Int) ≤ (fs.length : Int) := by omega
  have l1 : (fs.length : Int) * 64 ≤ 140737488351232 := by omega
  clear h hcell h1 h2 h3 hB
  go_enter Tryz.func30, Tryz.ntmps30
  go_wp2_with (refine wpList_make_t _ rfl (.const (.int .i64 0)) (.tmp 7) rfl fnElem (cn := fs.length + 1) (fun _ => 0) 2 rfl rfl (by omega) (by omega) (by unfold maxLen; omega) ?_; intro bm w0 g0 O0 T0; have X0 := Lib.hid (And.intro ((Since.start w).turn T0 (by decide)) O0); clear O0 T0)
  go_loopg [3, 4] fs.length (fun gk v2 v3 wr => TFAt w fs gk v2 v3 wr)
  case atStart => exact ⟨0, _, _, g0, [], Nat.zero_le _, rfl, rfl, rfl, X0.out.1, X0.out.2, rfl, (fun j h _ => absurd h (Nat.not_lt_zero _)), FE.nil _ _ _ _⟩
  case round =>
    obtain ⟨k, a, c, g1, els, hk, rfl, rfl, rfl, hS, hO, hE, hA, hNE⟩ := hrel
    have k0 : (0 : Int) ≤ (k : Int) := by omega
    have X := Lib.hid (And.intro hS (And.intro hO (And.intro hE hA)))
    have XN := Lib.hid hNE
    clear hNE
    clear hS hO hE hA X0
    by_cases hlt : k < fs.length
    · have k1 : (k : Int) < (fs.length : Int) := by omega
      obtain ⟨b, off, v1, v2, hb1, hS', hN⟩ := HC.out k hlt
      cases hb1
      have hbl := X.out.1.below
      have hM := hN.frame hS' fun j hj _ => hbl.block j (Nat.lt_of_lt_of_le hj HB.out)
      obtain ⟨x, hx⟩ : ∃ x, x = fs[k] := ⟨_, rfl⟩
      rw [← hx] at hM
      have d0 := hM.d0
      have d1 := hM.d1
      have d2 := hM.d2
      have M1 := Lib.hid hM.args
      have M2 := Lib.hid hM.body
      obtain ⟨z1, y1, rfl⟩ := M1.out.form
      obtain ⟨z2, y2, rfl⟩ := M2.out.form
      have HK := Lib.hid (And.intro hlt (And.intro hx hM.name))
      have HBr := Lib.hid (Nat.le_trans HB.out hbl.size)
      clear hN hM hx hbl hk hS'
      obtain ⟨tt, xl, xb⟩ := x
      simp only at d0 d1 d2
      go_wp2_with fail
      refine twin_func (f := ⟨tt, xl, xb⟩) HBr.out M1.out M2.out fun v1 v2 w1 hb1 f1 f2 hm => ?_
      obtain ⟨u1, q1, rfl⟩ := TextsIn.form f1
      obtain ⟨u2, q2, rfl⟩ := Nodes.form f2
      have T1 := Turn.of_below hb1 g1 1
      have hel : FlIs w1 (fun b => g1.ext wr.heap.size 1 b = 1) true ⟨tt, .slice u1 xl.length q1, .slice u2 xb.len q2⟩ ⟨tt, xl, xb⟩ := ⟨⟨rfl, HK.out.2.2⟩, freshT_tag f1, fresh_tag f2⟩
      have N1 : FE w1 (g1.ext wr.heap.size 1) w.heap.size (els ++ [⟨tt, .slice u1 xl.length q1, .slice u2 xb.len q2⟩]) fs := by
        obtain ⟨m0, m1, m2, i1, i2, i3, i4, ⟨F1, l1, r1⟩, ⟨F2, l2, r2⟩⟩ := hm
        have hr : InR m0 m2 (F1 ++ F2) := r1.app r2 i2 i3
        have hEl := X.out.2.2.1
        refine XN.out.snoc (x := ⟨⟨tt, xl, xb⟩, .slice u1 xl.length q1, .slice u2 xb.len q2, F1, F2⟩) X.out.1.below.size T1 (by rw [hEl]; exact HK.out.1) ⟨HK.out.2.2, l1, l2⟩ ?_ rfl (hr.mono i1 i4) fun b hb => Tags.ext_new _ _ _ _ (Nat.le_trans i1 (hr.2 b hb).1)
        subst hEl
        exact HK.out.2.1
      have S1 := X.out.1.turn T1 (by decide)
      have O1 := X.out.2.1.turn T1 (by decide)
      have A1 := X.out.2.2.2.turn T1 (by decide)
      generalize g1.ext wr.heap.size 1 = g2 at *
      have T4 := Turn.alloc w1 g2 3 (.cells #[.string (tx tt), .slice u1 xl.length q1, .slice u2 xb.len q2] 57)
      have X4 := Lib.hid (And.intro (S1.turn T4 (by decide)) (And.intro (O1.turn T4 (by decide)) (And.intro (A1.turn T4 (by decide)) (hel.turn T4 (by decide)))))
      have XN4 := Lib.hid (N1.turn T4 (by decide))
      clear T1 T4 S1 O1 A1 hel f1 f2 hb1 d0 d1 d2 N1 hm
      go_wp2_with (at_builtin; refine wpList_append_t _ rfl (.tmp 15) (.tmp 21) rfl fnElem (v := .slice a k c) (y := .slice (some ⟨w1.heap.size, 0, none⟩) 1 1) rfl X4.out.2.1 rfl (Src.lit #[.string (tx tt), .slice u1 xl.length q1, .slice u2 xb.len q2] 57 rfl rfl) (by simp [Value.oneCell']) (by unfold maxLen; omega) (by omega) ?_; intro a2 c2 w2 g3 O2 T2; have X2 := Lib.hid (And.intro O2 T2); clear O2 T2)
      have e1 : flCells els ++ [.string (tx tt), .slice u1 xl.length q1, .slice u2 xb.len q2] = flCells (els ++ [⟨tt, .slice u1 xl.length q1, .slice u2 xb.len q2⟩]) := by rw [flCells_append, flCells_cons]; rfl
      have hE := X.out.2.2.1
      have X7 := Lib.hid (And.intro (X4.out.1.turn X2.out.2 (by decide)) (And.intro (show Owns w2 g3 2 57 3 (.slice a2 (k + 1) c2) (k + 1) _ from e1 ▸ X2.out.1) ((X4.out.2.2.1.turn X2.out.2 (by decide)).snoc (by rw [hE]; exact HK.out.1) (by subst hE; rw [← HK.out.2.1]; exact X4.out.2.2.2.turn X2.out.2 (by decide)))))
      have XN7 := Lib.hid (XN4.out.turn X2.out.2 (by decide))
      clear e1 X4 X2
      go_roundg (fs.length - (k + 1))
      case measure => have := HK.out.1; omega
      case rel => exact ⟨k + 1, a2, c2, g3, _, HK.out.1, rfl, rfl, by go_num, X7.out.1, X7.out.2.1, by rw [List.length_append, hE]; rfl, X7.out.2.2, XN7.out⟩
    · obtain rfl : k = fs.length := by omega
      have T4 := Turn.alloc wr g1 3 (.cells #[.string ⟨#[115, 112, 97, 114, 101]⟩, .slice none 0 0, .slice none 0 0] 57)
      have X4 := Lib.hid (And.intro (X.out.1.turn T4 (by decide)) (And.intro (X.out.2.1.turn T4 (by decide)) (X.out.2.2.2.turn T4 (by decide))))
      have XN4 := Lib.hid (XN.out.turn T4 (by decide))
      clear T4 hlt hk
      go_wp2_with (at_builtin; refine wpList_append_t _ rfl (.tmp 23) (.tmp 25) rfl fnElem (v := .slice a fs.length c) (y := .slice (some ⟨wr.heap.size, 0, none⟩) 1 1) rfl X4.out.2.1 rfl (Src.lit #[.string ⟨#[115, 112, 97, 114, 101]⟩, .slice none 0 0, .slice none 0 0] 57 rfl rfl) (by simp [Value.oneCell']) (by unfold maxLen; omega) (by omega) ?_; intro a2 c2 w2 g2 O2 T2; obtain ⟨b3, off3, cap3, hv3, hcc, hcap3⟩ := owns_someN O2; subst hv3; subst hcc; have X2 := Lib.hid (And.intro O2 T2); clear O2 T2; have hsl := slice_hs (P := Tryz.prog) (size := 3) Tryz.underlying22 (by kernel_rfl) b3 off3 (fs.length + 1) cap3 fs.length (fs.length : Int) rfl (by omega))
      have hS2 := X4.out.1.turn X2.out.2 (by decide)
      exact H.out _ w2 hS2.below ⟨funcs_made rfl X.out.2.2.1 hS2 (X4.out.2.2.turn X2.out.2 (by decide)) X2.out.1 (by omega), fs_made rfl X.out.2.2.1 hS2 (XN4.out.turn X2.out.2 (by decide)) X2.out.1 (by omega)⟩
end Go.Proofs.YtmkhfonafcikdaaGreatDoor
