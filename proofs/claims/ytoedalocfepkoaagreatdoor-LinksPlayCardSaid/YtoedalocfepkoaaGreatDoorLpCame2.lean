/- Links: take, where nothing is laid by; Came. -/
import Derived.Test.YtoedalocfepkoaaGreatDoorLpCame
namespace Go.Proofs.YtoedalocfepkoaaGreatDoor
open Go.RowKit Go.My

set_option maxRecDepth 100000 in
set_option maxHeartbeats 2000000 in
theorem take_there {w : World} {g : Tags} {t eb : Nat} {s : Li.St} {q : Nat} (tl : Nat) (hE : EndIs w g t eb s q) (n : Nat) (hn : n < Li.M) {tv : Nat} {v : Value} {b : List UInt8} (hv : Bytes w g tv v b) (htl : tl < t)
    {x : List UInt8} (he : s.early n = some x) :
    Calls Tryz.prog 28 #[.pointer (some ⟨eb, 0, none⟩), .int .u32 (n : Int), v] w (TookSaid w g t eb tl s.awaited (Li.take s n b) (q + 1)) := by
  have HTL := Lib.hid (show tl ∉ [t, t + 2] by simp; omega)
  have HTL2 := Lib.hid htl
  have hno : ¬ (s.early n = none ∧ Li.far n s.awaited < 16) := by rw [he]; intro h; cases h.1
  have hS := not_laid (b := b) hno
  obtain ⟨wv, mb, f, hE⟩ := hE
  obtain ⟨ao, cap, rfl⟩ := bytes_form hv
  obtain ⟨T1, hE1⟩ := mark_at hE
  obtain ⟨k0, k1, k2, k3, k4, k5⟩ := hE.cell
  have k54 := k5 4
  have k2' := hE1.cell.2.2.1
  have k3' := hE1.cell.2.2.2.1
  obtain ⟨u, hu, hub⟩ := early_some (hE1.early n hn) he
  obtain ⟨xa, xc, rfl⟩ := bytes_form hub.bytes
  have hlk := hE1.map.look_some Tryz.underlying59 Tryz.underlying58 (zeroBytes _) (wf_u32 n hn) hu
  clear hu hub he
  have HDR := Lib.hid (show DrainAt w g t eb tl (Li.laid s n b) (q + 1) 16 (.slice none 0 0) (w.setCell ⟨eb, 4, none⟩ (.bool true)) by rw [hS]; exact drain_start (hE1.mono (Nat.le_succ q)) (T1.mono (by simp)))
  clear hE hE1 T1 hv k5 hS hno
  go_enter Tryz.func28, Tryz.ntmps28
  go_wp2_with fail
  go_loopg [6] 16 (fun gk vl wr => DrainAt w g t eb tl (Li.laid s n b) (q + 1) gk vl wr)
  case atStart => exact HDR.out
  case round =>
    obtain ⟨s1, done, wv1, mb1, f1, gr, la, lc, hwin1, hd1, rfl, hL1, hE1, hT1, hlen1, haw1⟩ := hrel
    have HX := Lib.hid (And.intro hwin1 (And.intro hd1 (And.intro hL1 (And.intro hE1 (And.intro hT1 haw1)))))
    have haw := hE1.win.1
    obtain ⟨_, _, _, _, _, kf⟩ := hE1.cell
    have kd2 := fun m => (hE1.turn (Turn.drewN wr gr m) (by simp) (by simp) (by simp) (by simp) (fun n _ => by simp <;> omega)).cell.2.2.1
    have kd3 := fun m => (hE1.turn (Turn.drewN wr gr m) (by simp) (by simp) (by simp) (by simp) (fun n _ => by simp <;> omega)).cell.2.2.2.1
    have kd2' := kd2 0
    have kd3' := kd3 0
    clear hwin1 hd1 hL1 hT1 HDR kf haw1
    cases hea : s1.early s1.awaited with
    | none =>
      have hl1 := fun m => (hE1.turn (Turn.drewN wr gr m) (by simp) (by simp) (by simp) (by simp) (fun n _ => by simp <;> omega)).map.look_none Tryz.underlying59 Tryz.underlying58 (zeroBytes _) (wf_u32 _ haw) (early_none (hE1.early _ haw) hea)
      have HEA := Lib.hid hea
      clear hE1 hea
      go_wp2_with fail
      go_quiet (fail)
      go_wp2_with fail
      go_ret
      exact drain_stop HX.out.2.1 HEA.out HX.out.2.2.1 HX.out.2.2.2.1 HX.out.2.2.2.2.1 _
    | some bx =>
      obtain ⟨k, rfl⟩ : ∃ k, gk = k + 1 := by
        cases gk with
        | zero => have := Li.win_none HX.out.1 s1.awaited; rw [hea] at this; cases this
        | succ k => exact ⟨k, rfl⟩
      obtain ⟨u, hu, hub⟩ := early_some (hE1.early _ haw) hea
      obtain ⟨ua, uc, rfl⟩ := bytes_form hub.bytes
      have hl1 := fun m => (hE1.turn (Turn.drewN wr gr m) (by simp) (by simp) (by simp) (by simp) (fun n _ => by simp <;> omega)).map.look_some Tryz.underlying59 Tryz.underlying58 (zeroBytes _) (wf_u32 _ haw) hu
      obtain ⟨aw, haw2⟩ : ∃ aw : Int, aw = (((s1.awaited + 1) % Li.M : Nat) : Int) := ⟨_, rfl⟩
      have hnw := (next_wrap s1.awaited haw).trans haw2.symm
      have HAW := Lib.hid haw2
      clear haw2
      have HEA := Lib.hid (And.intro hea hub)
      clear hea hub hu
      have HE1 := Lib.hid hE1
      clear hE1
      go_wp2_with fail
      go_quiet (fail)
      have hds := (HE1.out.turn ((Turn.drewN wr gr nq).trans (Turn.drew _ gr) (V := []) (by simp) (by simp)) (by simp) (by simp) (by simp) (by simp) (fun n _ => by simp <;> omega)).map.drop Tryz.underlying59 Tryz.underlying58 (wf_u32 _ haw) 0
      obtain ⟨w1, hdel, hds⟩ := hds
      have HDS := Lib.hid (drain_at HE1.out HX.out.1 (by omega) hds.1 hds.2 ((Turn.drewN wr gr nq).trans (Turn.drew _ gr) (V := []) (by simp) (by simp)) (by rw [World.size_drew, heap_drewN']) HAW.out)
      have c2 := kd2 nq
      have c3 := kd3 nq
      obtain ⟨c1, c1'⟩ := drain_cells HE1.out hds.2 ((Turn.drewN wr gr nq).trans (Turn.drew _ gr) (V := []) (by simp) (by simp)) (by rw [World.size_drew, heap_drewN'])
      have hlen2 : done.length + 1 ≤ 1000000000 := by omega
      clear hds kd2 kd3 hl1
      go_upto_region 8 with fail
      go_cut [] (fun wx => wx = w1)
      case first =>
        go_region_law (refine step_delete rfl (.tmp 59) (.tmp 63) rfl rfl rfl hdel ?_)
        all_goals
          go_wp2_with fail
          go_meet
          case rel => rfl
      case rest =>
        obtain rfl := hcut
        clear c2 c3 hdel
        obtain ⟨τ, hτ⟩ : ∃ τ, τ = tt t (Li.laid s n b).awaited := ⟨_, rfl⟩
        have L9 := Lib.hid (HX.out.2.2.1.turn HDS.out.1 HTL.out (not_tt t _))
        have B9 := Lib.hid (HEA.out.2.turn HDS.out.1 (by simp <;> omega))
        rw [show t + 4 + s1.awaited = tt t (Li.laid s n b).awaited done.length by unfold tt; rw [HX.out.2.2.2.2.2]] at B9
        have N9 := Lib.hid (tt_ne t (Li.laid s n b).awaited tl HTL2.out)
        rw [← hτ] at L9 B9 N9
        have Hτ := Lib.hid hτ
        clear hτ
        go_wp2_with (at_builtin; go_loud (refine append_one rfl (.tmp 71) (.tmp 73) rfl (g := (gr.ext wr.heap.size (t + 2)).ext _ 1000) (t := tl) (t' := τ) rfl (L9.out.turn (Turn.alloc _ _ 1000 _) List.not_mem_nil (fun _ => List.not_mem_nil)) rfl (by simp) (B9.out.turn (Turn.alloc _ _ 1000 _) List.not_mem_nil) N9.out hlen2 ?_); intro a3 c3 w3 g3 L3 T3; have X3 := Lib.hid (And.intro L3 T3); clear L3 T3)
        go_roundg k
        case measure => omega
        case rel => exact drain_next HX.out.1 HX.out.2.1 HEA.out.1 hlen1 (Hτ.out ▸ X3.out.1) HX.out.2.2.2.2.2 HX.out.2.2.2.2.1 HDS.out.1 HDS.out.2 X3.out.2 htl

set_option maxRecDepth 100000 in
set_option maxHeartbeats 2000000 in
theorem take_far {w : World} {g : Tags} {t eb : Nat} {s : Li.St} {q : Nat} (tl : Nat) (hE : EndIs w g t eb s q) (n : Nat) (hn : n < Li.M) {tv : Nat} {v : Value} {b : List UInt8} (hv : Bytes w g tv v b) (htl : tl < t)
    (he : s.early n = none) (hfar : 16 ≤ Li.far n s.awaited) :
    Calls Tryz.prog 28 #[.pointer (some ⟨eb, 0, none⟩), .int .u32 (n : Int), v] w (TookSaid w g t eb tl s.awaited (Li.take s n b) (q + 1)) := by
  have HTL := Lib.hid (show tl ∉ [t, t + 2] by simp; omega)
  have HTL2 := Lib.hid htl
  have hno : ¬ (s.early n = none ∧ Li.far n s.awaited < 16) := by intro h; omega
  have hS := not_laid (b := b) hno
  obtain ⟨wv, mb, f, hE⟩ := hE
  obtain ⟨ao, cap, rfl⟩ := bytes_form hv
  obtain ⟨T1, hE1⟩ := mark_at hE
  obtain ⟨k0, k1, k2, k3, k4, k5⟩ := hE.cell
  have k54 := k5 4
  have k2' := hE1.cell.2.2.1
  have k3' := hE1.cell.2.2.2.1
  have hlk := hE1.map.look_none Tryz.underlying59 Tryz.underlying58 (zeroBytes _) (wf_u32 n hn) (early_none (hE1.early n hn) he)
  have hw := far_wrap n s.awaited hn hE.win.1
  obtain ⟨d, hd⟩ : ∃ d, d = Li.far n s.awaited := ⟨_, rfl⟩
  rw [← hd] at hw hfar
  have hf1 : (16 : Int) ≤ (d : Int) := by omega
  clear hd he hfar
  have HDR := Lib.hid (show DrainAt w g t eb tl (Li.laid s n b) (q + 1) 16 (.slice none 0 0) (w.setCell ⟨eb, 4, none⟩ (.bool true)) by rw [hS]; exact drain_start (hE1.mono (Nat.le_succ q)) (T1.mono (by simp)))
  clear hE hE1 T1 hv k5 hS hno
  go_enter Tryz.func28, Tryz.ntmps28
  go_wp2_with fail
  go_loopg [6] 16 (fun gk vl wr => DrainAt w g t eb tl (Li.laid s n b) (q + 1) gk vl wr)
  case atStart => exact HDR.out
  case round =>
    obtain ⟨s1, done, wv1, mb1, f1, gr, la, lc, hwin1, hd1, rfl, hL1, hE1, hT1, hlen1, haw1⟩ := hrel
    have HX := Lib.hid (And.intro hwin1 (And.intro hd1 (And.intro hL1 (And.intro hE1 (And.intro hT1 haw1)))))
    have haw := hE1.win.1
    obtain ⟨_, _, _, _, _, kf⟩ := hE1.cell
    have kd2 := fun m => (hE1.turn (Turn.drewN wr gr m) (by simp) (by simp) (by simp) (by simp) (fun n _ => by simp <;> omega)).cell.2.2.1
    have kd3 := fun m => (hE1.turn (Turn.drewN wr gr m) (by simp) (by simp) (by simp) (by simp) (fun n _ => by simp <;> omega)).cell.2.2.2.1
    have kd2' := kd2 0
    have kd3' := kd3 0
    clear hwin1 hd1 hL1 hT1 HDR kf haw1
    cases hea : s1.early s1.awaited with
    | none =>
      have hl1 := fun m => (hE1.turn (Turn.drewN wr gr m) (by simp) (by simp) (by simp) (by simp) (fun n _ => by simp <;> omega)).map.look_none Tryz.underlying59 Tryz.underlying58 (zeroBytes _) (wf_u32 _ haw) (early_none (hE1.early _ haw) hea)
      have HEA := Lib.hid hea
      clear hE1 hea
      go_wp2_with fail
      go_quiet (fail)
      go_wp2_with fail
      go_ret
      exact drain_stop HX.out.2.1 HEA.out HX.out.2.2.1 HX.out.2.2.2.1 HX.out.2.2.2.2.1 _
    | some bx =>
      obtain ⟨k, rfl⟩ : ∃ k, gk = k + 1 := by
        cases gk with
        | zero => have := Li.win_none HX.out.1 s1.awaited; rw [hea] at this; cases this
        | succ k => exact ⟨k, rfl⟩
      obtain ⟨u, hu, hub⟩ := early_some (hE1.early _ haw) hea
      obtain ⟨ua, uc, rfl⟩ := bytes_form hub.bytes
      have hl1 := fun m => (hE1.turn (Turn.drewN wr gr m) (by simp) (by simp) (by simp) (by simp) (fun n _ => by simp <;> omega)).map.look_some Tryz.underlying59 Tryz.underlying58 (zeroBytes _) (wf_u32 _ haw) hu
      obtain ⟨aw, haw2⟩ : ∃ aw : Int, aw = (((s1.awaited + 1) % Li.M : Nat) : Int) := ⟨_, rfl⟩
      have hnw := (next_wrap s1.awaited haw).trans haw2.symm
      have HAW := Lib.hid haw2
      clear haw2
      have HEA := Lib.hid (And.intro hea hub)
      clear hea hub hu
      have HE1 := Lib.hid hE1
      clear hE1
      go_wp2_with fail
      go_quiet (fail)
      have hds := (HE1.out.turn ((Turn.drewN wr gr nq).trans (Turn.drew _ gr) (V := []) (by simp) (by simp)) (by simp) (by simp) (by simp) (by simp) (fun n _ => by simp <;> omega)).map.drop Tryz.underlying59 Tryz.underlying58 (wf_u32 _ haw) 0
      obtain ⟨w1, hdel, hds⟩ := hds
      have HDS := Lib.hid (drain_at HE1.out HX.out.1 (by omega) hds.1 hds.2 ((Turn.drewN wr gr nq).trans (Turn.drew _ gr) (V := []) (by simp) (by simp)) (by rw [World.size_drew, heap_drewN']) HAW.out)
      have c2 := kd2 nq
      have c3 := kd3 nq
      obtain ⟨c1, c1'⟩ := drain_cells HE1.out hds.2 ((Turn.drewN wr gr nq).trans (Turn.drew _ gr) (V := []) (by simp) (by simp)) (by rw [World.size_drew, heap_drewN'])
      have hlen2 : done.length + 1 ≤ 1000000000 := by omega
      clear hds kd2 kd3 hl1
      go_upto_region 8 with fail
      go_cut [] (fun wx => wx = w1)
      case first =>
        go_region_law (refine step_delete rfl (.tmp 59) (.tmp 63) rfl rfl rfl hdel ?_)
        all_goals
          go_wp2_with fail
          go_meet
          case rel => rfl
      case rest =>
        obtain rfl := hcut
        clear c2 c3 hdel
        obtain ⟨τ, hτ⟩ : ∃ τ, τ = tt t (Li.laid s n b).awaited := ⟨_, rfl⟩
        have L9 := Lib.hid (HX.out.2.2.1.turn HDS.out.1 HTL.out (not_tt t _))
        have B9 := Lib.hid (HEA.out.2.turn HDS.out.1 (by simp <;> omega))
        rw [show t + 4 + s1.awaited = tt t (Li.laid s n b).awaited done.length by unfold tt; rw [HX.out.2.2.2.2.2]] at B9
        have N9 := Lib.hid (tt_ne t (Li.laid s n b).awaited tl HTL2.out)
        rw [← hτ] at L9 B9 N9
        have Hτ := Lib.hid hτ
        clear hτ
        go_wp2_with (at_builtin; go_loud (refine append_one rfl (.tmp 71) (.tmp 73) rfl (g := (gr.ext wr.heap.size (t + 2)).ext _ 1000) (t := tl) (t' := τ) rfl (L9.out.turn (Turn.alloc _ _ 1000 _) List.not_mem_nil (fun _ => List.not_mem_nil)) rfl (by simp) (B9.out.turn (Turn.alloc _ _ 1000 _) List.not_mem_nil) N9.out hlen2 ?_); intro a3 c3 w3 g3 L3 T3; have X3 := Lib.hid (And.intro L3 T3); clear L3 T3)
        go_roundg k
        case measure => omega
        case rel => exact drain_next HX.out.1 HX.out.2.1 HEA.out.1 hlen1 (Hτ.out ▸ X3.out.1) HX.out.2.2.2.2.2 HX.out.2.2.2.2.1 HDS.out.1 HDS.out.2 X3.out.2 htl

theorem take_t {w : World} {g : Tags} {t eb : Nat} {s : Li.St} {q : Nat} (tl : Nat) (hE : EndIs w g t eb s q) (n : Nat) (hn : n < Li.M) {tv : Nat} {v : Value} {b : List UInt8} (hv : Bytes w g tv v b) (hb : b.length ≤ 65536) (hq : q < 1000000000) (htv : tv < t) (htl : tl < t) :
    Calls Tryz.prog 28 #[.pointer (some ⟨eb, 0, none⟩), .int .u32 (n : Int), v] w (TookSaid w g t eb tl s.awaited (Li.take s n b) (q + 1)) := by
  cases he : s.early n with
  | none =>
    by_cases hf : Li.far n s.awaited < 16
    · exact take_laid tl hE n hn hv hb hq htv htl he hf
    · exact take_far tl hE n hn hv htl he (Nat.le_of_not_lt hf)
  | some x => exact take_there tl hE n hn hv htl he
end Go.Proofs.YtoedalocfepkoaaGreatDoor
