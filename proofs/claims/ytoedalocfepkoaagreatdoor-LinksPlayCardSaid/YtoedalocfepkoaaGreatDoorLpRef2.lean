/- Links: the document's end: Send, Packets. -/
import Derived.Test.YtoedalocfepkoaaGreatDoorLpRef
namespace Go.Proofs.YtoedalocfepkoaaGreatDoor
open Go.RowKit Go.My

theorem rsend_limit {w : World} {g : Tags} {mb : Nat} {s : Li.St} {q : Nat} (_hR : RefIs w g mb s q) {tv : Nat} {v : Value} {b : List UInt8} (hv : Bytes w g tv v b) (hb : 65536 < b.length) {Q : Ending → World → Prop} (h : Q (.returned (.int .i64 3)) w) :
    Calls Tryz.prog 9 #[.pointer (some ⟨mb, 0, none⟩), v] w Q := by
  obtain ⟨ao, cap, rfl, _, hm, _⟩ := BytesIn.open_ hv
  have h1 : (65536 : Int) < (b.length : Int) := by omega
  have h2 : (b.length : Int) ≤ 9223372036854775807 := by unfold maxLen at hm; omega
  have H := Lib.hid h
  clear h hv hm hb
  go_enter Tryz.func9, Tryz.ntmps9
  go_wp2_with fail
  exact H.out

theorem rsend_full {w : World} {g : Tags} {mb : Nat} {s : Li.St} {q : Nat} (hR : RefIs w g mb s q) {tv : Nat} {v : Value} {b : List UInt8} (hv : Bytes w g tv v b) (hb : b.length ≤ 65536) (hf : s.waits.length = 16) {Q : Ending → World → Prop} (h : Q (.returned (.int .i64 11)) w) :
    Calls Tryz.prog 9 #[.pointer (some ⟨mb, 0, none⟩), v] w Q := by
  obtain ⟨wv, ev, te, ks, hR⟩ := hR
  obtain ⟨_, k1, _, _, _, _⟩ := hR.cell
  obtain ⟨wa, wc, rfl⟩ := hR.waits.form
  obtain ⟨ao, cap, rfl, _, _, _⟩ := BytesIn.open_ hv
  rw [hf] at k1
  have h1 : (b.length : Int) ≤ 65536 := by omega
  have H := Lib.hid h
  clear h hR hv hb hf
  go_enter Tryz.func9, Tryz.ntmps9
  go_wp2_with fail
  exact H.out

/-- After twin and append, before the store. -/
structure RSendAt (w : World) (g : Tags) (mb : Nat) (s : Li.St) (q : Nat) (b : List UInt8) (wv : Value) (w2 : World) (g2 : Tags) (v2 : Value) : Prop where
  cell : w2.cell? ⟨mb, 1, none⟩ = some wv
  froz : w2.frozen? ⟨mb, 1, none⟩ = false
  done : Turn w g (w2.setCell ⟨mb, 1, none⟩ v2) g2 [740, 741] ∧ RefIs (w2.setCell ⟨mb, 1, none⟩ v2) g2 mb (sent s b) q

theorem rsend_at {w w1 w2 : World} {g g1 g2 : Tags} {mb : Nat} {s : Li.St} {q : Nat} {wv ev : Value} {te : Nat} {ks : List Kp} {o : Obj} {b : List UInt8} {v2 : Value} (hR : RefAt w g mb s q wv ev te ks) (hT : Turn w g w1 g1 [])
    (hL : Lists w2 g2 741 (fun _ => 743) v2 (s.waits ++ [b])) (hT2 : Turn (w1.alloc o) (g1.ext w1.heap.size 1000) w2 g2 [741]) (hb : b.length ≤ 65536) (hf : s.waits.length < 16) : RSendAt w g mb s q b wv w2 g2 v2 := by
  have T1 : Turn w g w2 g2 [741] := (hT.trans (Turn.alloc w1 g1 1000 o) (V := []) (by simp) (by simp)).trans hT2 (by simp) (by simp)
  have B2 := hR.box.turn T1 (by decide)
  obtain ⟨T3, B3⟩ := B2.store 1 v2
  have c := B2.cell 1
  have T := T1.trans T3 (V := [740, 741]) (by simp) (by simp)
  have ht : te ∉ [740, 741] := by rcases hR.tag with e | e <;> rw [e] <;> decide
  refine ⟨c.1, c.2, T, v2, ev, te, ks, B3, hL.turn T3 (by decide) (by simp), hR.tag, hR.early.turn T ht, fun k hk => (hR.bytes k hk).turn T (by decide), hR.rel, hR.win, ?_, ?_, hR.count⟩
  · show (s.waits ++ [b]).length ≤ 16
    rw [List.length_append]; simp; omega
  · refine ⟨fun x hx => ?_, hR.small.2⟩
    rcases List.mem_append.1 hx with hx | hx
    · exact hR.small.1 x hx
    · rw [List.mem_singleton.1 hx]; exact hb

set_option maxHeartbeats 2000000 in
theorem rsend_ok {w : World} {g : Tags} {mb : Nat} {s : Li.St} {q : Nat} (hR : RefIs w g mb s q) {tv : Nat} {v : Value} {b : List UInt8} (hv : Bytes w g tv v b) (hb : b.length ≤ 65536) (hf : s.waits.length < 16) {Q : Ending → World → Prop}
    (h : ∀ w' g', Turn w g w' g' [740, 741] → RefIs w' g' mb (sent s b) q → Q (.returned (.int .i64 0)) w') :
    Calls Tryz.prog 9 #[.pointer (some ⟨mb, 0, none⟩), v] w Q := by
  obtain ⟨wv, ev, te, ks, hR⟩ := hR
  obtain ⟨_, k1, _, _, _, _⟩ := hR.cell
  obtain ⟨wa, wc, rfl⟩ := hR.waits.form
  obtain ⟨ao, cap, rfl, _, _, _⟩ := BytesIn.open_ hv
  have h1 : (b.length : Int) ≤ 65536 := by omega
  have h2 : (s.waits.length : Int) ≤ 15 := by omega
  have H := Lib.hid h
  have HR := Lib.hid hR
  have HV := Lib.hid hv
  clear h hR hv
  go_enter Tryz.func9, Tryz.ntmps9
  go_wp2_with fail
  go_region_law (first
    | (go_simp; go_at_call 23; refine rtwin_f 743 (HV.out.turn (Turn.drew w g) (by simp)) (by omega) ?_; intro a1 c1 w1 g1 T1 O1; have X1 := Lib.hid (And.intro O1 (((Turn.drew w g).trans T1 (V := []) (by simp) (by simp)))); clear O1 T1; have e0 := (HR.out.turn X1.out.2 (by simp)).cell.2.1; have e0' := fun o => ((HR.out.turn X1.out.2 (by simp)).turn (Turn.alloc w1 g1 1000 o) (by simp)).cell.2.1)
    | (refine step_lists_one rfl (.tmp 18) (.tmp 21) rfl (g := g1.ext w1.heap.size 1000) (t := 741) (t' := fun _ => 743) rfl ((HR.out.waits.turn X1.out.2 (by simp) (by simp)).turn (Turn.alloc w1 g1 1000 _) (by simp) (by simp)) rfl rfl (X1.out.1.turn (Turn.alloc w1 g1 1000 _) (by simp)) (by simp) (by omega) ?_; intro a2 c2 w2 g2 L2 T2; have X2 := Lib.hid (rsend_at HR.out X1.out.2 L2 T2 hb hf); clear L2 T2; obtain e1 := X2.out.cell; obtain e2 := X2.out.froz))
  all_goals (go_wp2_with fail; exact H.out _ _ X2.out.done.1 X2.out.done.2)

def RpkAt (w : World) (g : Tags) (mb : Nat) (s : Li.St) (q : Nat) (wv ev : Value) (te : Nat) (ks : List Kp) (gk : Nat) (vl vi : Value) (wr : World) : Prop :=
  ∃ k gr ao n cap, k ≤ s.waits.length ∧ gk = s.waits.length - k ∧ vi = .int .i64 (k : Int) ∧ n = (Li.datas s.first 0 (s.waits.take k)).length ∧ vl = .slice ao n cap ∧ Lists wr gr 747 (fun _ => 746) (.slice ao n cap) (Li.datas s.first 0 (s.waits.take k)) ∧ RefAt wr gr mb s q wv ev te ks ∧ Turn w g wr gr [747]

theorem rpk_next {w wr w2 : World} {g gr g2 : Tags} {mb k : Nat} {s : Li.St} {q : Nat} {wv ev : Value} {te : Nat} {ks : List Kp} (hk : k < s.waits.length) {aw : Nat} (haw : aw = (s.first + k) % Li.M) {a2 : Option Addr} {c2 : Nat}
    (hL : Lists w2 g2 747 (fun _ => 746) (.slice a2 ((Li.datas s.first 0 (s.waits.take k)).length + 1) c2) (Li.datas s.first 0 (s.waits.take k) ++ [Li.packet 68 aw s.waits[k]])) (hR : RefAt wr gr mb s q wv ev te ks)
    (hT2 : Turn wr gr w2 g2 [747]) (hT : Turn w g wr gr [747]) :
    RpkAt w g mb s q wv ev te ks (s.waits.length - (k + 1)) (.slice a2 ((Li.datas s.first 0 (s.waits.take k)).length + 1) c2) (.int .i64 ((k : Int) + 1)) w2 := by
  have e : Li.datas s.first 0 (s.waits.take (k + 1)) = Li.datas s.first 0 (s.waits.take k) ++ [Li.packet 68 aw s.waits[k]] := by
    rw [List.take_succ_eq_append_getElem hk, Li.datas_snoc, haw]
    have : (s.waits.take k).length = k := by rw [List.length_take]; omega
    rw [this, Nat.zero_add]
  refine ⟨k + 1, g2, a2, _, c2, hk, rfl, by go_num, ?_, rfl, by rw [e]; exact hL, hR.turn hT2 (by simp), hT.trans hT2 (by simp) (by simp)⟩
  rw [e, List.length_append]; rfl

theorem rpk_end {w : World} {g : Tags} {mb : Nat} {s : Li.St} {q : Nat} {wv ev : Value} {te : Nat} {ks : List Kp} (hR : RefAt w g mb s q wv ev te ks) :
    Turn w g (w.setCell ⟨mb, 4, none⟩ (.bool false)) g [740] ∧ RefIs (w.setCell ⟨mb, 4, none⟩ (.bool false)) g mb { s with came := false } q := by
  obtain ⟨T, B⟩ := hR.box.store 4 (.bool false)
  have ht : te ∉ [740] := by rcases hR.tag with e | e <;> rw [e] <;> decide
  exact ⟨T, wv, ev, te, ks, B, hR.waits.turn T (by decide) (by simp), hR.tag, hR.early.turn T ht, fun k hk => (hR.bytes k hk).turn T (by decide), hR.rel, ⟨hR.win.1, hR.win.2.1, hR.win.2.2⟩, hR.few, hR.small, hR.count⟩

set_option maxRecDepth 100000 in
set_option maxHeartbeats 4000000 in
theorem rpackets_t {w : World} {g : Tags} {mb : Nat} {s : Li.St} {q : Nat} (hR : RefIs w g mb s q) {ps : List (List UInt8)} (hp : Li.packets s = ps) {Q : Ending → World → Prop}
    (h : ∀ ao cap w' g', Turn w g w' g' [740, 747] → Lists w' g' 747 (fun _ => 746) (.slice ao ps.length cap) ps → RefIs w' g' mb { s with came := false } q → Q (.returned (.slice ao ps.length cap)) w') :
    Calls Tryz.prog 12 #[.pointer (some ⟨mb, 0, none⟩)] w Q := by
  obtain ⟨wv, ev, te, ks, hR⟩ := hR
  have hfew := hR.few
  obtain ⟨c0, c1, c2, c3, c4, cf⟩ := hR.cell
  have cf4 := cf 4
  obtain ⟨wa, wc, rfl⟩ := hR.waits.form
  have H := Lib.hid h
  have HP := Lib.hid hp
  have HE := Lib.hid hR
  clear hR h hp cf
  go_enter Tryz.func12, Tryz.ntmps12
  go_wp2_with fail
  have i9 : (s.waits.length : Int) ≤ 16 := by omega
  go_loopg [3, 4] s.waits.length (fun gk vl vi wr => RpkAt w g mb s q (.slice wa s.waits.length wc) ev te ks gk vl vi wr)
  case atStart => exact ⟨0, g, none, 0, 0, Nat.zero_le _, rfl, rfl, rfl, rfl, Lists.nil _ _ _ _, HE.out, Turn.refl _ _ _⟩
  case round =>
    obtain ⟨k, gr, la, ln, lc, hk, rfl, rfl, hn, rfl, hL, hEr, hT⟩ := hrel
    have HX := Lib.hid (And.intro hL (And.intro hEr (And.intro hT hn)))
    obtain ⟨k0, k1, k2, k3, k4, kf⟩ := hEr.cell
    have kf4 := kf 4
    have hwn := hEr.win
    clear hL hEr hT hn HE kf c0 c1 c2 c3 c4 cf4
    have i0 : (0 : Int) ≤ (k : Int) := by omega
    by_cases hlt : k < s.waits.length
    · have i1 : (k : Int) < (s.waits.length : Int) := by omega
      obtain ⟨b, off, rfl, hc⟩ := lists_cells HX.out.2.1.waits (by omega)
      obtain ⟨u, hu, hub⟩ := hc k hlt
      obtain ⟨ua, uc, rfl⟩ := bytes_form hub
      have hsm := HX.out.2.1.small.1 _ (List.getElem_mem hlt)
      obtain ⟨aw, haw⟩ : ∃ aw : Nat, aw = (s.first + k) % Li.M := ⟨_, rfl⟩
      have hnw := add_wrap s.first k hwn.2.1
      rw [← haw] at hnw
      have hawl : aw < 4294967296 := by rw [haw]; exact Nat.mod_lt _ (by decide)
      have HU := Lib.hid (And.intro hu hub)
      have HAW := Lib.hid haw
      have hdl := Li.datas_length s.first (s.waits.take k) 0
      rw [List.length_take] at hdl
      have hls : (Li.datas s.first 0 (s.waits.take k)).length ≤ 1000000 := by omega
      have hln : ln + 1 ≤ 1000000000 := by rw [HX.out.2.2.2]; omega
      have hwr : IntKind.u32.wrap (k : Int) = (k : Int) := IntWalk.u32_in _ (by omega)
      clear hc hub haw hwn hdl
      have HL := Lib.hid (show Lists wr gr 747 (fun _ => 746) (.slice la (Li.datas s.first 0 (s.waits.take k)).length lc) (Li.datas s.first 0 (s.waits.take k)) from HX.out.2.2.2 ▸ HX.out.1)
      have hlnE := HX.out.2.2.2
      subst hlnE
      have M := fun (w1 : World) (g1 : Tags) (T : Turn wr gr w1 g1 []) => And.intro (HX.out.2.1.turn T (by simp)).cell (World.cell?_of_block (a := ⟨b, off + k, none⟩) (T.block b (World.block_lt_of_cell? _ _ HU.out.1) (by simp)) |>.trans HU.out.1)
      have HM := Lib.hid M
      clear M
      obtain ⟨⟨m0, m1, _, _, _, _⟩, m5⟩ := HM.out _ _ (Turn.drew wr gr)
      go_wp2_with fail
      go_region_law (first
        | (go_simp; go_at_call 27; refine rpacket_f 746 68 aw hawl (HU.out.2.turn (Turn.drew wr gr) List.not_mem_nil) (by omega) rfl ?_; intro a1 b1 w1 g1 T1 O1; have X1 := Lib.hid (And.intro O1 ((Turn.drew wr gr).trans T1 (V := []) (by simp) (by simp))); clear O1 T1; obtain ⟨⟨n0, n1, _, _, _, _⟩, n5⟩ := HM.out _ _ X1.out.2; have n' := fun o => HM.out _ _ (X1.out.2.trans (Turn.alloc w1 g1 1000 o) (V := []) (by simp) (by simp)); have n0' := fun o => (n' o).1.1; have n1' := fun o => (n' o).1.2.1; have n5' := fun o => (n' o).2; clear n')
        | (go_loud (refine step_lists_one rfl (.tmp 14) (.tmp 30) rfl (g := g1.ext w1.heap.size 1000) (t := 747) (t' := fun _ => 746) rfl ((HL.out.turn X1.out.2 List.not_mem_nil (fun _ => List.not_mem_nil)).turn (Turn.alloc w1 g1 1000 _) List.not_mem_nil (fun _ => List.not_mem_nil)) rfl rfl (X1.out.1.turn (Turn.alloc w1 g1 1000 _) List.not_mem_nil) (fun _ => by decide) hln ?_); intro a2 c2 w2 g2 L2 T2; have X2 := Lib.hid (rpk_next hlt HAW.out L2 HX.out.2.1 ((X1.out.2.trans (Turn.alloc w1 g1 1000 _) (V := []) (by simp) (by simp)).trans T2 (V := [747]) (by simp) (by simp)) HX.out.2.2.1); clear L2 T2))
      all_goals
        go_wp2_with fail
        go_roundg (s.waits.length - (k + 1))
        case measure => omega
        case rel => exact X2.out
    · obtain rfl : k = s.waits.length := by omega
      rw [List.take_length] at HX
      have hdl := Li.datas_length s.first s.waits 0
      have hls : (Li.datas s.first 0 s.waits).length + 1 ≤ 1000000000 := by omega
      have hlnE := HX.out.2.2.2
      subst hlnE
      cases hcm : s.came with
      | true =>
        rw [hcm] at k4
        have hawl : s.awaited < 4294967296 := hwn.1
        have HCM := Lib.hid (show Li.datas s.first 0 s.waits ++ [Li.packet 65 s.awaited []] = ps by rw [← HP.out]; unfold Li.packets; rw [hcm]; rfl)
        clear hwn hdl hcm hlt
        have M := fun (w1 : World) (g1 : Tags) (T : Turn wr gr w1 g1 []) => (HX.out.2.1.turn T (by simp)).cell
        have HM := Lib.hid M
        clear M
        go_wp2_with fail
        refine rpacket_f 746 65 s.awaited hawl (BytesIn.nil wr (fun b => gr b = 0)) (by simp) rfl fun a1 b1 w1 g1 T1 O1 => ?_
        have X1 := Lib.hid (And.intro O1 T1)
        clear O1 T1
        go_wp2_with (at_builtin; refine append_one rfl (.tmp 36) (.tmp 42) rfl (g := g1.ext w1.heap.size 1000) (t := 747) (t' := fun _ => 746) rfl ((HX.out.1.turn X1.out.2 List.not_mem_nil (fun _ => List.not_mem_nil)).turn (Turn.alloc w1 g1 1000 _) List.not_mem_nil (fun _ => List.not_mem_nil)) rfl rfl (X1.out.1.turn (Turn.alloc w1 g1 1000 _) List.not_mem_nil) (fun _ => by decide) hls ?_; intro a2 c2 w2 g2 L2 T2; rw [HCM.out] at L2; have T3 := (X1.out.2.trans (Turn.alloc w1 g1 1000 _) (V := []) (by simp) (by simp)).trans T2 (V := [747]) (by simp) (by simp); have R2 := HX.out.2.1.turn T3 (by simp); have X2 := Lib.hid (And.intro (HX.out.2.2.1.trans T3 (V := [747]) (by simp) (by simp)) (And.intro L2 R2)); have f4 := R2.cell.2.2.2.2.1; have f5 := R2.cell.2.2.2.2.2 4; clear L2 T2 T3 R2)
        all_goals
          have HF := Lib.hid (rpk_end X2.out.2.2)
          have hlen : (Li.datas s.first 0 s.waits).length + 1 = ps.length := by rw [← HCM.out, List.length_append]; rfl
          rw [hlen] at X2 ⊢
          go_wp2_with fail
          exact H.out _ _ _ _ (X2.out.1.trans HF.out.1 (by simp) (by simp)) (X2.out.2.1.turn HF.out.1 (by decide) (by simp)) HF.out.2
      | false =>
        rw [hcm] at k4
        have HCM := Lib.hid (show Li.datas s.first 0 s.waits = ps by rw [← HP.out]; unfold Li.packets; rw [hcm]; simp)
        have HF := Lib.hid (rpk_end HX.out.2.1)
        rw [HCM.out] at HX ⊢
        clear hwn hdl hcm hlt
        go_wp2_with fail
        exact H.out _ _ _ _ (HX.out.2.2.1.trans HF.out.1 (by simp) (by simp)) (HX.out.1.turn HF.out.1 (by decide) (by simp)) HF.out.2
end Go.Proofs.YtoedalocfepkoaaGreatDoor
