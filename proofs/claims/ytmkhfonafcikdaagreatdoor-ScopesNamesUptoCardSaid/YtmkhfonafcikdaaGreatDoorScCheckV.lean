/- Scopes: Check: does each name stand for something? -/
import Derived.Test.YtmkhfonafcikdaaGreatDoorScChkV
import Derived.Deep.CutRange
import Derived.Deep.RegionWith
import Derived.BigQuiet
namespace Go.Proofs.YtmkhfonafcikdaaGreatDoor
open Go.RowKit Go.Maps Go.My Go.Nd Go.WideMaps

def manyV (fs : List Nd.Fn) (s : Tx) : Option Value := (manyOf fs s).map fun n : Nat => .int .i64 (n : Int)
/-- The program, the functions' names, with how many things they are called; what stood before. -/
structure CkSt (w0 W : World) (g : Tags) (pb kb nb mm : Nat) (pv : Array Value) (fs : List Nd.Fn) (i j : Nat) : Prop where
  since : Since w0 W g
  pbox : Blk W g pb 720 (.cells pv 25 (0, 0))
  kbox : Blk W g kb 721 (.cells #[.map (some mm)] 72 (0, 0))
  nam : NamAt W g 723 nb ((fs.take i).map (·.name)) i
  mtag : g mm = 722
  map : MapS Tryz.prog 9 W mm j (manyV (fs.take j))
theorem CkSt.turn {w0 W W' : World} {g g' : Tags} {pb kb nb mm : Nat} {pv : Array Value} {fs : List Nd.Fn} {i j : Nat} {T : List Nat} (h : CkSt w0 W g pb kb nb mm pv fs i j) (T' : Turn W g W' g' T)
    (hT : ∀ t ∈ [0, 720, 721, 722, 723, 724, 725], t ∉ T) : CkSt w0 W' g' pb kb nb mm pv fs i j :=
  ⟨h.since.turn T' (hT _ (by simp)), h.pbox.turn T' (hT _ (by simp)), h.kbox.turn T' (hT _ (by simp)), h.nam.turn T' (hT _ (by simp)) (hT _ (by simp)) (hT _ (by simp)), (T'.old mm h.map.lt).trans h.mtag, h.map.frame (T'.block mm h.map.lt (by rw [h.mtag]; exact hT _ (by simp)))⟩
def CkAt (w0 : World) (pb kb nb mm : Nat) (pv : Array Value) (fs : List Nd.Fn) (gk : Nat) (v19 : Value) (wr : World) : Prop :=
  ∃ (i : Nat) (g : Tags), i ≤ fs.length ∧ gk = fs.length - i ∧ v19 = .int .i64 (i : Int) ∧ headsTo fs i ∧ CkSt w0 wr g pb kb nb mm pv fs i i

theorem CkSt.added {w0 W W' : World} {g g' : Tags} {pb kb nb mm : Nat} {pv : Array Value} {fs : List Nd.Fn} {i : Nat} (h : CkSt w0 W g pb kb nb mm pv fs i i) (T : Turn W g W' g' [723, 724, 725]) (hi : i < fs.length)
    (N : NamAt W' g' 723 nb (addN ((fs.take i).map (·.name)) (fs[i]).name) (i + 1)) (hn : ((fs.take i).map (·.name)).contains (fs[i]).name = false) : CkSt w0 W' g' pb kb nb mm pv fs (i + 1) i := by
  have e : addN ((fs.take i).map (·.name)) (fs[i]).name = (fs.take (i + 1)).map (·.name) := by
    unfold addN
    rw [hn, List.take_succ_eq_append_getElem hi, List.map_append]; rfl
  rw [e] at N
  exact ⟨h.since.turn T (by simp), h.pbox.turn T (by simp), h.kbox.turn T (by simp), N, (T.old mm h.map.lt).trans h.mtag, h.map.frame (T.block mm h.map.lt (by rw [h.mtag]; simp))⟩
theorem ck_more {w0 W W' : World} {g g' : Tags} {pb kb nb mm : Nat} {pv : Array Value} {fs : List Nd.Fn} {i : Nat} {f : Nd.Fn} (h : CkSt w0 W g pb kb nb mm pv fs (i + 1) i) (T : Turn W g W' g' [722]) (hi : i < fs.length) (hf : f = fs[i])
    (M : MapS Tryz.prog 9 W' mm (i + 1) (fun j => if j = f.name then some (.int .i64 (f.args.length : Int)) else manyV (fs.take i) j)) : CkSt w0 W' g' pb kb nb mm pv fs (i + 1) (i + 1) := by
  have e : (fun j => if j = f.name then some (Value.int .i64 (f.args.length : Int)) else manyV (fs.take i) j) = manyV (fs.take (i + 1)) := by
    funext j
    unfold manyV
    rw [manyOf_take hi, ← hf]
    by_cases hj : f.name = j
    · rw [if_pos hj, if_pos hj.symm]; rfl
    · rw [if_neg hj, if_neg (Ne.symm hj)]
  rw [e] at M
  exact ⟨h.since.turn T (by simp), h.pbox.turn T (by simp), h.kbox.turn T (by simp), h.nam.turn T (by simp) (by simp) (by simp), (T.old mm h.map.lt).trans h.mtag, M⟩
theorem ck_args {w0 W : World} {g : Tags} {pb kb nb mm fb : Nat} {pv : Array Value} {fs : List Nd.Fn} {i j : Nat} {o : Obj} (h : CkSt w0 W g pb kb nb mm pv fs i j) (hb : Blk W g fb 726 o) :
    ∃ g', CkSt w0 ((W.alloc (.cells #[.slice none 0 0, .map none] 74)).alloc (.cells #[.pointer (some ⟨W.heap.size, 0, none⟩)] 71)) g' pb kb nb mm pv fs i j ∧
      Blk ((W.alloc (.cells #[.slice none 0 0, .map none] 74)).alloc (.cells #[.pointer (some ⟨W.heap.size, 0, none⟩)] 71)) g' fb 726 o ∧
      ArSt w0 ((W.alloc (.cells #[.slice none 0 0, .map none] 74)).alloc (.cells #[.pointer (some ⟨W.heap.size, 0, none⟩)] 71)) g' (W.heap.size + 1) W.heap.size [] 0 := by
  have T1 := Turn.alloc W g 730 (.cells #[.slice none 0 0, .map none] 74)
  have B1 := Blk.alloc W g 730 (.cells #[.slice none 0 0, .map none] 74 (0, 0))
  have z1 : (W.alloc (.cells #[.slice none 0 0, .map none] 74)).heap.size = W.heap.size + 1 := World.size_alloc _ _
  have h1 := h.turn T1 (by simp)
  have b1 := hb.turn T1 (by simp)
  generalize W.alloc (.cells #[.slice none 0 0, .map none] 74) = w2 at *
  generalize Tags.ext g W.heap.size 730 = g2 at *
  have T2 := Turn.alloc w2 g2 734 (.cells #[.pointer (some ⟨W.heap.size, 0, none⟩)] 71)
  have B2 := Blk.alloc w2 g2 734 (.cells #[.pointer (some ⟨W.heap.size, 0, none⟩)] 71 (0, 0))
  rw [z1] at B2 T2
  have h2 := h1.turn T2 (by simp)
  exact ⟨_, h2, b1.turn T2 (by simp), h2.since, B2, ⟨Nat.le_refl _, (fun s h => by simp at h), .inl ⟨rfl, ⟨B1.turn T2 (by simp)⟩⟩⟩⟩
/-- Behind the test of a function's name. -/
def CkMid (w0 : World) (pb kb nb mm : Nat) (pv : Array Value) (fs : List Nd.Fn) (i fb : Nat) (fo : Obj) (v42 : Value) (wx : World) : Prop :=
  (v42 = .bool true ∧ headsOk fs = false ∧ Below w0.heap.size w0 wx) ∨
  (v42 = .bool false ∧ ∃ g, CkSt w0 wx g pb kb nb mm pv fs (i + 1) i ∧ Blk wx g fb 726 fo ∧ ∃ h : i < fs.length, libOf (fs[i]).name = none ∧ Go.Nd.letters.contains (fs[i]).name = false ∧ ((fs.take i).map (·.name)).contains (fs[i]).name = false)

theorem ck_start {w0 w1 : World} {g1 : Tags} {pb : Nat} {pv : Array Value} (fs : List Nd.Fn) (hS : Since w0 w1 g1) (hp : Blk w1 g1 pb 720 (.cells pv 25 (0, 0))) :
    ∃ g, CkSt w0 (((w1.alloc (.cells #[.slice none 0 0, .map none] 74)).alloc (.map #[] 0)).alloc (.cells #[.map (some (w1.heap.size + 1))] 72)) g pb (w1.heap.size + 1 + 1) w1.heap.size (w1.heap.size + 1) pv fs 0 0 := by
  have T1 := Turn.alloc w1 g1 723 (.cells #[.slice none 0 0, .map none] 74)
  have B1 := Blk.alloc w1 g1 723 (.cells #[.slice none 0 0, .map none] 74 (0, 0))
  have z1 : (w1.alloc (.cells #[.slice none 0 0, .map none] 74)).heap.size = w1.heap.size + 1 := World.size_alloc _ _
  have S1 := hS.turn T1 (by simp)
  have P1 := hp.turn T1 (by simp)
  generalize w1.alloc (.cells #[.slice none 0 0, .map none] 74) = w2 at *
  generalize Tags.ext g1 w1.heap.size 723 = g2 at *
  have T2 := Turn.alloc w2 g2 722 (.map #[] 0)
  have M2 := MapS.made w2 Tryz.prog 9
  have mt : (g2.ext w2.heap.size 722) w2.heap.size = 722 := Tags.ext_new _ _ _ _ (Nat.le_refl _)
  have z2 : (w2.alloc (.map #[] 0)).heap.size = w1.heap.size + 1 + 1 := by rw [World.size_alloc, z1]
  have S2 := S1.turn T2 (by simp)
  have P2 := P1.turn T2 (by simp)
  have B2 := B1.turn T2 (by simp)
  rw [z1] at M2 mt S2 P2 B2
  generalize w2.alloc (.map #[] 0) = w3 at *
  generalize Tags.ext g2 (w1.heap.size + 1) 722 = g3 at *
  have T3 := Turn.alloc w3 g3 721 (.cells #[.map (some (w1.heap.size + 1))] 72)
  have B3 := Blk.alloc w3 g3 721 (.cells #[.map (some (w1.heap.size + 1))] 72 (0, 0))
  rw [z2] at B3 T3
  have hlt : w1.heap.size + 1 < w3.heap.size := by rw [z2]; omega
  exact ⟨_, S2.turn T3 (by simp), P2.turn T3 (by simp), B3, ⟨Nat.le_refl _, (fun s h => by simp at h), .inl ⟨rfl, ⟨B2.turn T3 (by simp)⟩⟩⟩, (T3.old _ hlt).trans mt, M2.frame (T3.block _ hlt (by simp))⟩

set_option maxRecDepth 100000 in
set_option maxHeartbeats 16000000 in
theorem scheck_t {w : World} {B : Nat} {p : Pr} {v1 v2 : Value} (hB : B ≤ w.heap.size) (h1 : FuncsIn w (· < B) false v1 p.funcs) (h2 : Nodes w (· < B) false v2 p.body) (hS : SmallP p) :
    Calls Tryz.prog 12 #[.agg #[v1, v2]] w fun e w' => e = .returned (.int .i64 (scheck wrapI p : Int)) ∧ Below w.heap.size w w' := by
  obtain ⟨a1, c1, rfl⟩ := h1.form
  obtain ⟨a2, c2, rfl⟩ := h2.form
  have T0 := Turn.alloc w (fun _ => 0) 720 (.cells #[.slice a1 p.funcs.length c1, .slice a2 p.body.len c2] 25)
  have B0 := Blk.alloc w (fun _ => 0) 720 (.cells #[.slice a1 p.funcs.length c1, .slice a2 p.body.len c2] 25 (0, 0))
  have S0 := (Since.start w).turn T0 (by simp)
  have hAB := S0.below.mono hB
  have HC := Lib.hid (check_t (Nat.le_trans hB S0.below.size) (h1.below hAB) (h2.below hAB))
  have H1 := Lib.hid h1
  have H2 := Lib.hid h2
  have HB := Lib.hid hB
  have HS := Lib.hid hS
  have hr := hS.funcs
  have l0 : (0 : Int) ≤ (p.funcs.length : Int) := by omega
  have l1 : (p.funcs.length : Int) ≤ 1048576 := by omega
  have H0 := Lib.hid (And.intro S0 B0)
  clear h1 h2 hS T0 B0 S0 hAB hB hr
  go_enter Tryz.func12, Tryz.ntmps12
  go_wp2_with fail
  refine HC.out.mono ?_
  rintro e w1 ⟨rfl, hb⟩
  have TW := Turn.of_below hb ((Tags.ext (fun _ => 0) w.heap.size 720)) 0
  have P1 := Lib.hid (And.intro (H0.out.1.turn TW (by simp)) (H0.out.2.turn TW (by simp)))
  generalize Tags.ext (Tags.ext (fun _ => 0) w.heap.size 720) (w.alloc (.cells #[.slice a1 p.funcs.length c1, .slice a2 p.body.len c2] 25)).heap.size 0 = g1 at P1
  clear TW hb HC H0
  cases hc : check wrapI p with
  | false =>
    have HC := Lib.hid (scheck_arg hc)
    clear hc
    go_wp2_with fail
    go_ret
    exact ⟨by rw [HC.out]; rfl, P1.out.1.below⟩
  | true =>
    have HC := Lib.hid hc
    obtain ⟨g2, hst⟩ := ck_start p.funcs P1.out.1 P1.out.2
    clear hc P1
    have hmk : ∀ W : World, (Instr.makeMap 72 none).run Tryz.prog W = .ok (.map (some W.heap.size)) (W.alloc (.map #[] 0)) := fun _ => rfl
    go_upto_region 4 with fail
    obtain ⟨w3, hw3⟩ : ∃ w3, w3 = ((w1.alloc (.cells #[.slice none 0 0, .map none] 74)).alloc (.map #[] 0)).alloc (.cells #[.map (some (w1.heap.size + 1))] 72) := ⟨_, rfl⟩
    rw [← hw3] at hst ⊢
    obtain ⟨nb, hnb⟩ : ∃ nb, nb = w1.heap.size := ⟨_, rfl⟩
    rw [← hnb] at hst ⊢
    have X0 := Lib.hid hst
    have p0 := cell_of_row w3 w.heap.size 0 _ _ _ hst.pbox.1
    simp at p0
    clear hst hw3 hnb hmk
    go_wp2_with fail
    clear p0
    go_loopg [19] p.funcs.length (fun gk v19 wr => CkAt w w.heap.size (nb + 1 + 1) nb (nb + 1) #[.slice a1 p.funcs.length c1, .slice a2 p.body.len c2] p.funcs gk v19 wr)
    case atStart => exact ⟨0, g2, Nat.zero_le _, rfl, rfl, headsTo_zero _, X0.out⟩
    case round =>
      obtain ⟨i, g, hi, rfl, rfl, hH, hS⟩ := hrel
      have i0 : (0 : Int) ≤ (i : Int) := by omega
      have X := Lib.hid (And.intro hS hH)
      clear X0 hS hH
      by_cases hlt : i < p.funcs.length
      · have i1 : (i : Int) < (p.funcs.length : Int) := by omega
        obtain ⟨_, _, e1, _, _, _, _, hcc⟩ := H1.out
        obtain ⟨b, off, v1, v2, e2, hSb, hN⟩ := hcc i hlt
        cases e1
        cases e2
        obtain ⟨a3, c3, r1⟩ := hN.args.form
        obtain ⟨a4, c4, r2⟩ := hN.body.form
        subst r1
        subst r2
        have hblk := (X.out.1.since.below.mono HB.out).block b hSb
        have d0 := (World.cell?_of_block hblk).trans hN.d0
        have d1 := (World.cell?_of_block hblk).trans hN.d1
        have d2 := (World.cell?_of_block hblk).trans hN.d2
        have HN := Lib.hid (And.intro hN.name (And.intro hN.args hN.body))
        have hmem := List.getElem_mem hlt
        obtain ⟨f, hf⟩ : ∃ f, f = p.funcs[i] := ⟨_, rfl⟩
        rw [← hf] at d0 d1 d2 HN hmem
        have HF := Lib.hid (show (∃ h : i < p.funcs.length, f = p.funcs[i]) ∧ f ∈ p.funcs from ⟨⟨hlt, hf⟩, hmem⟩)
        have hnm := HN.out.1
        obtain ⟨fb, hfb⟩ : ∃ fb, fb = wr.heap.size := ⟨_, rfl⟩
        have T1 := Turn.alloc wr g 726 (.cells #[.string (tx f.name), .slice a3 f.args.length c3, .slice a4 f.body.len c4] 57)
        have B1 := Blk.alloc wr g 726 (.cells #[.string (tx f.name), .slice a3 f.args.length c3, .slice a4 f.body.len c4] 57 (0, 0))
        have X1 := Lib.hid (And.intro (X.out.1.turn T1 (by simp)) B1)
        clear hN hf hlt hmem hcc hSb hblk T1 B1 hi
        go_upto_region 7 with fail
        obtain ⟨w6, hw6⟩ : ∃ w6, w6 = wr.alloc (.cells #[.string (tx f.name), .slice a3 f.args.length c3, .slice a4 f.body.len c4] 57) := ⟨_, rfl⟩
        obtain ⟨g6, hg6⟩ : ∃ g6, g6 = g.ext wr.heap.size 726 := ⟨_, rfl⟩
        have X2 := X1.out
        rw [← hw6, ← hg6, ← hfb] at X2
        rw [← hw6, ← hfb]
        have X6 := Lib.hid X2
        have q0 := cell_of_row w6 fb 0 _ _ _ X2.2.1
        simp at q0
        have HH := Lib.hid X.out.2
        clear X1 X2 X hw6 hg6 hfb d0 d1 d2
        go_wp2_with fail
        refine (lib_t f.name hnm).mono ?_
        rintro e w7 ⟨rfl, hb7⟩
        generalize hls : (libOf f.name).isSome = ls
        generalize (((libOf f.name).getD 0 : Nat) : Int) = lv
        have HLS := Lib.hid hls
        clear hls
        have T7 := Turn.of_below hb7 g6 727
        have X7 := Lib.hid (And.intro (X6.out.1.turn T7 (by simp)) (X6.out.2.turn T7 (by simp)))
        generalize g6.ext w6.heap.size 727 = g7 at *
        clear T7 hb7 X6 q0
        go_upto_region 8 with fail
        go_cut [42] from 20 to 55 (fun v42 wx => CkMid w w.heap.size (nb + 1 + 1) nb (nb + 1) #[.slice (some ⟨b, off, none⟩) p.funcs.length c1, .slice a2 p.body.len c2] p.funcs i fb (.cells #[.string (tx f.name), .slice a3 f.args.length c3, .slice a4 f.body.len c4] 57 (0, 0)) v42 wx)
        case first =>
          cases ls with
          | true =>
            have HBad := Lib.hid (show headsOk p.funcs = false from by obtain ⟨h, e⟩ := HF.out.1; exact heads_bad h (.inl (by unfold headOk; rw [← e, ← Option.not_isSome, HLS.out]; rfl)))
            go_quiet (fail)
            all_goals
              go_wp2_with fail
              go_meet
              case rel => exact .inl ⟨rfl, HBad.out, (X7.out.1.since.turn (Turn.drewN w7 g7 _) (by simp)).below⟩
          | false =>
            have q0 := cell_of_row w7 fb 0 _ _ _ X7.out.2.1
            simp at q0
            have HQ := Lib.hid (fun (w8 : World) (h : w8 = w7.drew.alloc letObj) => show w8.cell? ⟨fb, 0, none⟩ = some (.string (tx f.name)) from h ▸ cell_of_row _ fb 0 _ _ _ ((X7.out.2.turn (Turn.drew w7 g7) (by simp)).turn (Turn.alloc w7.drew g7 728 letObj) (by simp)).1)
            have HL := Lib.hid (fun (w8 : World) (h : w8 = w7.drew.alloc letObj) => show w8.heap[w7.heap.size]? = some (.cells #[.string ⟨#[120]⟩, .string ⟨#[121]⟩, .string ⟨#[122]⟩, .string ⟨#[116]⟩] 9 (0, 0)) from h ▸ heap_alloc_new w7.drew _)
            have HX8 := Lib.hid (fun (w8 : World) (h : w8 = w7.drew.alloc letObj) => show ∃ g8, CkSt w w8 g8 w.heap.size (nb + 1 + 1) nb (nb + 1) #[.slice (some ⟨b, off, none⟩) p.funcs.length c1, .slice a2 p.body.len c2] p.funcs i i ∧ Blk w8 g8 fb 726 (.cells #[.string (tx f.name), .slice a3 f.args.length c3, .slice a4 f.body.len c4] 57 (0, 0)) from h ▸ ⟨_, (X7.out.1.turn (Turn.drew w7 g7) (by simp)).turn (Turn.alloc w7.drew g7 728 letObj) (by simp), (X7.out.2.turn (Turn.drew w7 g7) (by simp)).turn (Turn.alloc w7.drew g7 728 letObj) (by simp)⟩)
            cases hl : Go.Nd.letters.contains f.name with
            | true =>
              have HBad := Lib.hid (show headsOk p.funcs = false from by obtain ⟨h, e⟩ := HF.out.1; exact heads_bad h (.inl (by unfold headOk; rw [← e, hl]; simp)))
              have HI := Lib.hid (fun (W : World) h => hl ▸ islet_t (w := W) (b := w7.heap.size) h f.name)
              clear hl
              first
              | (go_region_law (first
                | (go_simp; refine letters_t.mono ?_; rintro e w8 ⟨rfl, hw8⟩; have q8 := HQ.out w8 hw8; have HLL := Lib.hid (HL.out w8 hw8); have HW8 := Lib.hid (HX8.out w8 hw8); clear hw8)
                | (go_simp; refine (HI.out _ HLL.out).mono ?_; rintro e w9 ⟨rfl, rfl⟩)))
              | fail
              all_goals
                go_wp2_with fail
                go_meet
                case rel => obtain ⟨g8, h8, _⟩ := HW8.out; exact .inl ⟨rfl, HBad.out, h8.since.below⟩
            | false =>
              have HI := Lib.hid (fun (W : World) h => hl ▸ islet_t (w := W) (b := w7.heap.size) h f.name)
              have hik : i ≤ 4000000 := by obtain ⟨h, _⟩ := HF.out.1; have := HS.out.funcs; omega
              have HLt := Lib.hid hl
              have HNM := Lib.hid hnm
              clear hl
              cases had : ((p.funcs.take i).map (·.name)).contains f.name with
              | true =>
                have HBad := Lib.hid (show headsOk p.funcs = false from by obtain ⟨h, e⟩ := HF.out.1; exact heads_bad h (.inr (by rw [← e]; exact had)))
                have HAD := Lib.hid had
                clear had
                first
                | (go_region_law (first
                  | (go_simp; refine letters_t.mono ?_; rintro e w8 ⟨rfl, hw8⟩; have q8 := HQ.out w8 hw8; have HLL := Lib.hid (HL.out w8 hw8); obtain ⟨g8, h8, b8⟩ := HX8.out w8 hw8; have HW8 := Lib.hid (And.intro h8 b8); clear hw8 h8 b8)
                  | (go_simp; refine (HI.out _ HLL.out).mono ?_; rintro e w9 ⟨rfl, rfl⟩)
                  | (go_simp; refine add_t HW8.out.1.nam hik HNM.out fun w9 g9 T9 N9 => ?_; rw [HAD.out]; have HW9 := Lib.hid (And.intro T9 N9); clear T9 N9)))
                | fail
                all_goals
                  go_wp2_with fail
                  go_meet
                  case rel => exact .inl ⟨rfl, HBad.out, (HW8.out.1.since.turn HW9.out.1 (by simp)).below⟩
              | false =>
                have HAD := Lib.hid had
                clear had
                first
                | (go_region_law (first
                  | (go_simp; refine letters_t.mono ?_; rintro e w8 ⟨rfl, hw8⟩; have q8 := HQ.out w8 hw8; have HLL := Lib.hid (HL.out w8 hw8); obtain ⟨g8, h8, b8⟩ := HX8.out w8 hw8; have HW8 := Lib.hid (And.intro h8 b8); clear hw8 h8 b8)
                  | (go_simp; refine (HI.out _ HLL.out).mono ?_; rintro e w9 ⟨rfl, rfl⟩)
                  | (go_simp; refine add_t HW8.out.1.nam hik HNM.out fun w9 g9 T9 N9 => ?_; rw [HAD.out]; have HW9 := Lib.hid (And.intro T9 N9); clear T9 N9)))
                | fail
                all_goals
                  go_wp2_with fail
                  go_meet
                  case rel =>
                    obtain ⟨h, e⟩ := HF.out.1
                    subst e
                    exact .inr ⟨rfl, g9, HW8.out.1.added HW9.out.1 h HW9.out.2 HAD.out, HW8.out.2.turn HW9.out.1 (by simp), h, Option.not_isSome_iff_eq_none.1 (by rw [HLS.out]; simp), HLt.out, HAD.out⟩
        case rest =>
          rcases hcut with ⟨rfl, hbad, hb⟩ | ⟨rfl, g8, hS8, hB8, hlt8, hl1, hl2, hl3⟩
          · have HBD := Lib.hid (scheck_bad (wrap := wrapI) (p := p) HC.out (by rw [hbad]; rfl))
            clear hbad
            go_wp2_with fail
            go_ret
            exact ⟨by rw [HBD.out]; rfl, hb⟩
          · have HF8 := Lib.hid (show f = p.funcs[i] from by obtain ⟨_, e⟩ := HF.out.1; exact e)
            rw [← HF8.out] at hl1 hl2 hl3
            have HL := Lib.hid (And.intro hlt8 (And.intro hl1 (And.intro hl2 hl3)))
            have f0 := cell_of_row wc fb 0 _ _ _ hB8.1
            have f1 := cell_of_row wc fb 1 _ _ _ hB8.1
            have k0 := cell_of_row wc (nb + 1 + 1) 0 _ _ _ hS8.kbox.1
            simp at f0 f1 k0
            have hik : i ≤ 1048576 := by have := HS.out.funcs; omega
            have hnm2 : f.name.length ≤ maxLen := by unfold maxLen; omega
            obtain ⟨w9, hup, hM9, hg9⟩ := hS8.map.store Tryz.underlying9 Tryz.underlying72 (by unfold maxLen; omega) hnm2 (.int .i64 (f.args.length : Int))
            have hup' : (Instr.mapUpdate 72 (.map (some (nb + 1))) (.string (tx f.name)) (.int .i64 (f.args.length : Int))).run Tryz.prog wc = .ok () w9 := hup
            have T9 := Turn.of_step (Step.of_grown hg9) g8 722 (by intro q hq; cases hq; exact hS8.mtag)
            have hS9 := ck_more hS8 T9 HL.out.1 HF8.out hM9
            have hB9 := hB8.turn T9 (by simp)
            obtain ⟨g10, hS10, hB10, hA10⟩ := ck_args hS9 hB9
            have HS10 := Lib.hid (And.intro hS10 (And.intro hB10 hA10))
            have j1 := cell_of_row _ fb 1 _ _ _ hB10.1
            simp at j1
            clear hS8 hB8 hl1 hl2 hl3 hup hM9 hg9 T9 hS9 hB9 hS10 hB10 hA10 hnm2
            go_upto_region 12 with fail
            obtain ⟨w10, hw10⟩ : ∃ w10, w10 = (w9.alloc (.cells #[.slice none 0 0, .map none] 74)).alloc (.cells #[.pointer (some ⟨w9.heap.size, 0, none⟩)] 71) := ⟨_, rfl⟩
            have X10' := HS10.out
            rw [← hw10] at X10' j1 ⊢
            have X10 := Lib.hid X10'
            generalize w9.heap.size = ab at *
            clear HS10 X10' hw10 hup' k0 f0 f1
            go_wp2_with fail
            refine Calls.mono (containsT_j (tw := false) (S := (· < B)) (xs := f.args) (g := g10)
              (J := fun k W g => dup (f.args.take k) = false ∧ ArSt w W g (ab + 1) ab (f.args.take k) k ∧ CkSt w W g w.heap.size (nb + 1 + 1) nb (nb + 1) #[.slice (some ⟨b, off, none⟩) p.funcs.length c1, .slice a2 p.body.len c2] p.funcs (i + 1) (i + 1))
              (Jx := fun W g => dup f.args = true ∧ Since w W g) ?h0 ?texts ?hf (fun _ _ => by kernel_rfl)) ?_
            case h0 => exact ⟨rfl, by rw [List.take_zero]; exact X10.out.2.2, X10.out.1⟩
            case texts => exact fun k W g h => HN.out.2.1.below (h.2.1.since.below.mono HB.out)
            case hf =>
              intro k hk W g ⟨q1, q2, q3⟩
              have hkl : k ≤ 4000000 := by have := (HS.out.each f HF.out.2).1; omega
              have hls : (f.args[k]).length ≤ 140737488351232 := by
                obtain ⟨_, _, _, _, _, _, _, hc⟩ := HN.out.2.1
                obtain ⟨_, _, _, _, _, hl⟩ := hc k hk
                exact hl
              refine (arg_one q2 hkl hls).mono ?_
              rintro e W' ⟨rfl, g', hT, hA⟩
              cases hc : (f.args.take k).contains f.args[k] with
              | true => exact .inl ⟨rfl, g', dup_take (i := k + 1) (by rw [dup_next hk q1]; exact hc), hA.since⟩
              | false =>
                refine .inr ⟨rfl, g', by rw [dup_next hk q1]; exact hc, ?_, q3.turn hT (by simp)⟩
                have e1 : addN (f.args.take k) f.args[k] = f.args.take (k + 1) := by
                  unfold addN
                  rw [hc, List.take_succ_eq_append_getElem hk]; rfl
                rw [e1] at hA
                exact hA
            rintro e w11 (⟨rfl, g11, hdup, hs11⟩ | ⟨rfl, g11, hdup, _, hS11⟩)
            · have HBD := Lib.hid (scheck_bad (wrap := wrapI) (p := p) HC.out (by rw [heads_bad HL.out.1 (.inl (by unfold headOk; rw [← HF8.out, hdup]; simp))]; rfl))
              have HB11 := Lib.hid hs11.below
              clear hdup hs11
              go_wp2_with fail
              go_ret
              exact ⟨by rw [HBD.out]; rfl, HB11.out⟩
            · rw [List.take_length] at hdup
              have HNX := Lib.hid (headsTo_succ HH.out HL.out.1 (by unfold headOk; rw [← HF8.out, hdup, HL.out.2.1, HL.out.2.2.1]; rfl) (by rw [← HF8.out]; exact HL.out.2.2.2))
              have HS11 := Lib.hid hS11
              clear hdup hS11
              go_wp2_with fail
              go_roundg (p.funcs.length - (i + 1))
              case measure => have := HL.out.1; omega
              case rel => exact ⟨i + 1, g11, HL.out.1, rfl, by go_num, HNX.out, HS11.out⟩
      · obtain rfl : i = p.funcs.length := by omega
        have HOK := Lib.hid (headsTo_all X.out.2)
        have p0 := cell_of_row wr w.heap.size 0 _ _ _ X.out.1.pbox.1
        have p1 := cell_of_row wr w.heap.size 1 _ _ _ X.out.1.pbox.1
        simp at p0 p1
        have HBW := Lib.hid (X.out.1.since.below.mono HB.out)
        have HBr := Lib.hid (Nat.le_trans HB.out X.out.1.since.below.size)
        clear hlt hi
        go_wp2_with fail
        refine parts_t HBr.out (H1.out.below HBW.out) (H2.out.below HBW.out) (by have := HS.out.funcs; omega) fun vp wp hbp hfp => ?_
        obtain ⟨ap, cp, rfl⟩ := hfp.form
        have TP := Turn.of_below hbp g 729
        have XP := Lib.hid (And.intro (X.out.1.turn TP (by simp)) hfp)
        have hkb := cell_of_row wp (nb + 1 + 1) 0 _ _ _ XP.out.1.kbox.1
        simp at hkb
        clear TP hbp hfp p0 p1
        go_wp2_with fail
        refine Calls.mono (containsF_j (tw := false) (S := (· < wp.heap.size)) (xs := partsOf p) (g := g)
          (J := fun k W _ => Below wp.heap.size wp W ∧ ((partsOf p).take k).any (fun f => !fineF (manyOf p.funcs) f.args f.body) = false)
          (Jx := fun W _ => Below wp.heap.size wp W ∧ (partsOf p).any (fun f => !fineF (manyOf p.funcs) f.args f.body) = true) ?h0 ?funcs ?hf (fun _ _ => by kernel_rfl)) ?_
        case h0 => exact ⟨Below.refl _ _, by simp⟩
        case funcs => exact fun k W g h => XP.out.2.below h.1
        case hf =>
          intro k hk W g a5 c5 a6 c6 ⟨q1, q2⟩ hnm3 hT3 hN3
          have hm := List.getElem_mem hk
          have hsz : (partsOf p)[k].args.length + (partsOf p)[k].body.flat.length ≤ 2000000 := by
            generalize (partsOf p)[k] = f at *
            unfold partsOf at hm
            rw [List.mem_append, List.mem_singleton] at hm
            rcases hm with hm | rfl
            · have := HS.out.each f hm; omega
            · have := HS.out.body; simp only [List.length_nil]; omega
          have hMM : MapS Tryz.prog 9 W (nb + 1) p.funcs.length (fun s => (manyOf p.funcs s).map fun n : Nat => .int .i64 (n : Int)) := by
            have := XP.out.1.map.frame (q1.block _ XP.out.1.map.lt)
            rw [List.take_length] at this
            exact this
          refine (part_one q1.size hT3 hN3 hsz ((World.cell?_of_block (q1.block _ (World.block_lt_of_cell? wp _ hkb))).trans hkb) hMM).mono ?_
          rintro e W' ⟨rfl, hb⟩
          have hb' := q1.trans (hb.mono q1.size)
          cases hff : fineF (manyOf p.funcs) (partsOf p)[k].args (partsOf p)[k].body with
          | false => exact .inl ⟨rfl, g, hb', List.any_eq_true.2 ⟨_, hm, by rw [hff]; rfl⟩⟩
          | true =>
            refine .inr ⟨rfl, g, hb', ?_⟩
            rw [List.take_succ_eq_append_getElem hk, List.any_append, q2]
            simp [hff]
        rintro e w12 (⟨rfl, _, hb12, hany⟩ | ⟨rfl, _, hb12, hany⟩)
        · have HBD := Lib.hid (scheck_bad (wrap := wrapI) (p := p) HC.out (by rw [fines_is, hany]; simp))
          have HB12 := Lib.hid (XP.out.1.since.below.trans (hb12.mono XP.out.1.since.below.size))
          clear hany hb12
          go_wp2_with fail
          go_ret
          exact ⟨by rw [HBD.out]; rfl, HB12.out⟩
        · rw [List.take_length] at hany
          have HBD := Lib.hid (scheck_ok (wrap := wrapI) (p := p) HC.out HOK.out (by rw [fines_is, hany]; rfl))
          have HB12 := Lib.hid (XP.out.1.since.below.trans (hb12.mono XP.out.1.since.below.size))
          clear hany hb12
          go_wp2_with fail
          go_ret
          exact ⟨by rw [HBD.out]; rfl, HB12.out⟩
end Go.Proofs.YtmkhfonafcikdaaGreatDoor
