/- Links: what becomes of packets: the walk of wire. -/
import Derived.Test.YtoedalocfepkoaaLiBoth
import Derived.Test.YtoedalocfepkoaaLiTalk
import Derived.Test.YtoedalocfepkoaaTag2
namespace Go.Li
theorem wire_one {ps : List (List UInt8)} {p : List UInt8} {w : List UInt8} {n t r} (h : wire (p :: ps) w = (n, t, r)) : ∃ n' t' r' w', wire ps w' = (n', t', r') ∧ r = r' ∧
    ((w = [] ∧ w' = [] ∧ n = p :: n' ∧ t = t') ∨ ∃ x, w = x :: w' ∧ ((x.toNat % 6 = 0 ∧ n = n' ∧ t = t') ∨ (x.toNat % 6 = 1 ∧ n = p :: p :: n' ∧ t = t') ∨ (x.toNat % 6 = 2 ∧ n = n' ∧ t = p :: t') ∨ (3 ≤ x.toNat % 6 ∧ n = p :: n' ∧ t = t'))) := by
  cases w with
  | nil =>
    rw [wire] at h
    simp only [Prod.mk.injEq] at h
    obtain ⟨rfl, rfl, rfl⟩ := h
    exact ⟨_, _, _, [], rfl, rfl, .inl ⟨rfl, rfl, rfl, rfl⟩⟩
  | cons x w =>
    refine ⟨(wire ps w).1, (wire ps w).2.1, (wire ps w).2.2, w, rfl, ?_⟩
    unfold wire at h
    split at h
    · rename_i h0
      refine ⟨by rw [h], .inr ⟨x, rfl, .inl ⟨h0, by rw [h], by rw [h]⟩⟩⟩
    · split at h
      · rename_i h0
        simp only [Prod.mk.injEq] at h
        exact ⟨h.2.2.symm, .inr ⟨x, rfl, .inr (.inl ⟨h0, h.1.symm, h.2.1.symm⟩)⟩⟩
      · split at h
        · rename_i h0
          simp only [Prod.mk.injEq] at h
          exact ⟨h.2.2.symm, .inr ⟨x, rfl, .inr (.inr (.inl ⟨h0, h.1.symm, h.2.1.symm⟩))⟩⟩
        · simp only [Prod.mk.injEq] at h
          exact ⟨h.2.2.symm, .inr ⟨x, rfl, .inr (.inr (.inr ⟨by omega, h.1.symm, h.2.1.symm⟩))⟩⟩
end Go.Li
namespace Go.Proofs.Ytoedalocfepkoaa
open Go.RowKit Go.My

theorem Lists.back {w w' : World} {g g0 : Tags} {T : List Nat} {s r : Nat → Nat} (h : Turn w (fun b => s (g b)) w' g0 T) {x t y t' : Nat} (hs : ∀ z, s z = x → z = t) (hr : r x = t) (hs' : ∀ z, s z = y → z = t') (hr' : r y = t') {v : Value} {ls : List (List UInt8)} (hv : Lists w' g0 x y v ls) : Lists w' (g.back g0 w.heap.size r) t t' v ls := by
  obtain ⟨us, h1, h2, h3⟩ := hv
  exact ⟨us, h1.back h hs hr, h2, fun j a b => (h3 j a b).back h hs' hr'⟩
theorem Lists.named {w : World} {g : Tags} {t t' : Nat} {v : Value} {ls : List (List UInt8)} (h : Lists w g t t' v ls) (s : Nat → Nat) : Lists w (fun b => s (g b)) (s t) (s t') v ls := by
  obtain ⟨us, h1, h2, h3⟩ := h
  exact ⟨us, h1.named s, h2, fun j a b => (h3 j a b).named s⟩

/-- TWICE THE SAME, AS ONE STEP OF A REGION THAT DRAWS ITS ORDER. -/
theorem step_lists_two {w : World} {ops : Array Oper} {o : Oper} {a : Act} {K : Act → World → Prop} {Q : Exit → Act → World → Prop} {X : Prop} (hgd : o.guard = none) (s x : Operand)
    (ho : o.op = .call { callee := .builtin .append, args := #[s, x], argTypes := #[24, 24] }) {g : Tags} {t t' : Nat} {v u : Value} {ls : List (List UInt8)} {b : List UInt8} (hs : a.eval s = v) {k : Nat} (hown : Lists (w.alloc (.cells #[u, u] 22)) g t t' v ls)
    (hy : a.eval x = .slice (some ⟨k, 0, none⟩) 2 2) (hk : k = w.heap.size) (hu : Bytes (w.alloc (.cells #[u, u] 22)) g t' u b) (ht : t' ≠ t) (hm : ls.length + 2 ≤ 1000000000)
    (h : ∀ ao cap w' g', Lists w' g' t t' (.slice ao (ls.length + 2) cap) (ls ++ [b, b]) → Turn (w.alloc (.cells #[u, u] 22)) g w' g' [t] → K (a.put o.dst (.slice ao (ls.length + 2) cap)) w') :
    if Region.wanted o (yielded ops a.tmps) = true then Oper.wp Try.prog o a (w.alloc (.cells #[u, u] 22)) K Q else X := by
  obtain ⟨us, h1, h2, h3⟩ := hown
  have hsrc : Go.My.Src (w.alloc (.cells #[u, u] 22)) 1 (.slice (some ⟨k, 0, none⟩) 2 2) 2 [u, u] := Src.lit #[u, u] 22 hk rfl
  refine step_append_t hgd s x ho listsElem hs h1 hy hsrc (fun x hx => by simp at hx; rw [hx]; exact slice_one hu) (by unfold maxLen; omega) (by omega) fun ao cap w' g' ho' hT => ?_
  refine h ao cap w' g' ⟨us ++ [u, u], by simpa using ho', by simp [h2], fun j a b' => ?_⟩ hT
  rcases Nat.lt_or_ge j us.length with hj | hj
  · have hj' : j < ls.length := by omega
    rw [List.getElem_append_left hj, List.getElem_append_left hj']
    exact (h3 j hj hj').turn hT (by simpa using ht)
  · have hj' : ls.length ≤ j := by omega
    rw [List.getElem_append_right hj, List.getElem_append_right hj']
    have hj2 : j = us.length ∨ j = us.length + 1 := by simp at a; omega
    have hu2 := hu.turn hT (show t' ∉ [t] by simpa using ht)
    rcases hj2 with rfl | rfl
    · simpa [h2] using hu2
    · simpa [h2] using hu2

/-- The rounds of wire. -/
def WireAt (w : World) (g : Tags) (to_ tb tl tw tn tt : Nat) (told late : Value) (ps ls N T : List (List UInt8)) (W : List UInt8) (gk : Nat) (vw vn vt vi : Value) (wr : World) : Prop :=
  ∃ (i : Nat) (gr : Tags) (now thn n' t' : List (List UInt8)) (ws : List UInt8), i ≤ ps.length ∧ gk = ps.length - i ∧ vi = .int .i64 (i : Int) ∧ Li.wire (ps.drop i) ws = (n', t', W) ∧ now ++ n' = N ∧ thn ++ t' = T ∧
    Lists wr gr tn tb vn now ∧ Lists wr gr tt tb vt thn ∧ Bytes wr gr tw vw ws ∧ Lists wr gr to_ tb told ps ∧ Lists wr gr tl tb late ls ∧ Turn w g wr gr [tn, tt]

def WireSaid (w : World) (g : Tags) (tb tw tn tt : Nat) (N T : List (List UInt8)) (W : List UInt8) (e : Ending) (w' : World) : Prop :=
  ∃ an cn at_ ct aw cw g', e = .returned (.tuple #[.slice an N.length cn, .slice at_ T.length ct, .slice aw W.length cw]) ∧ Lists w' g' tn tb (.slice an N.length cn) N ∧ Lists w' g' tt tb (.slice at_ T.length ct) T ∧ Bytes w' g' tw (.slice aw W.length cw) W ∧ Turn w g w' g' [tn, tt]

set_option maxHeartbeats 4000000 in
theorem wire_0 {w : World} {g : Tags} {to_ tb tl tw : Nat} (tn tt : Nat) {told late way : Value} {ps ls : List (List UInt8)} {ws : List UInt8} (hT : Lists w g to_ tb told ps) (hL : Lists w g tl tb late ls) (hW : Bytes w g tw way ws) (h1 : ps.length ≤ 1000) (h2 : ls.length ≤ 1000) (h3 : ws.length ≤ 1000)
    (hn : tn ≠ to_ ∧ tn ≠ tb ∧ tn ≠ tl ∧ tn ≠ tw ∧ tn ≠ tt) (ht : tt ≠ to_ ∧ tt ≠ tb ∧ tt ≠ tl ∧ tt ≠ tw) :
    Calls Try.prog 26 #[told, late, way] w (WireSaid w g tb tw tn tt ((Li.wire ps ws).1 ++ ls) (Li.wire ps ws).2.1 (Li.wire ps ws).2.2) := by
  obtain ⟨N, hN⟩ : ∃ N, N = (Li.wire ps ws).1 := ⟨_, rfl⟩
  obtain ⟨T, hTt⟩ : ∃ T, T = (Li.wire ps ws).2.1 := ⟨_, rfl⟩
  obtain ⟨W, hWw⟩ : ∃ W, W = (Li.wire ps ws).2.2 := ⟨_, rfl⟩
  have hsz := Li.wire_size ps ws
  have hw0 : Li.wire (ps.drop 0) ws = (N, T, W) := by rw [hN, hTt, hWw]; rfl
  rw [← hN, ← hTt, ← hWw] at hsz ⊢
  have HT1 := Lib.hid (show to_ ∉ [tn, tt] ∧ tb ∉ [tn, tt] ∧ tl ∉ [tn, tt] ∧ tw ∉ [tn, tt] ∧ tn ∉ [tt] ∧ tt ∉ [tn] by simp; omega)
  obtain ⟨oa, oc, rfl⟩ := hT.form
  obtain ⟨la, lc, rfl⟩ := hL.form
  have HS := Lib.hid (show WireAt w g to_ tb tl tw tn tt (.slice oa ps.length oc) (.slice la ls.length lc) ps ls N T W ps.length way (.slice none 0 0) (.slice none 0 0) (.int .i64 0) w from ⟨0, g, [], [], N, T, ws, Nat.zero_le _, rfl, rfl, hw0, rfl, rfl, Lists.nil _ _ _ _, Lists.nil _ _ _ _, hW, hT, hL, Turn.refl _ _ _⟩)
  have HZ := Lib.hid hsz
  have hps : (ps.length : Int) ≤ 1000 := by omega
  clear hT hL hW hw0 hN hTt hWw hsz h3
  go_enter Try.func26, Try.ntmps26
  go_wp2_with fail
  go_loopg [2, 9, 10, 11] ps.length (fun gk vw vn vt vi wr => WireAt w g to_ tb tl tw tn tt (.slice oa ps.length oc) (.slice la ls.length lc) ps ls N T W gk vw vn vt vi wr)
  case atStart => exact HS.out
  case round =>
    obtain ⟨i, gr, now, thn, n', t', wk, hi, rfl, rfl, hwk, hnow, hthn, hLn, hLt, hBw, hLo, hLl, hTu⟩ := hrel
    obtain ⟨na, nc, rfl⟩ := hLn.form
    obtain ⟨ta, tc, rfl⟩ := hLt.form
    obtain ⟨wa, wc, rfl⟩ := bytes_form hBw
    have i0 : (0 : Int) ≤ (i : Int) := by omega
    clear HS
    by_cases hlt : i < ps.length
    · have i1 : (i : Int) < (ps.length : Int) := by omega
      obtain ⟨pb, po, rfl, hpc⟩ := lists_cells hLo (by omega)
      obtain ⟨pu, hpu, hpub⟩ := hpc i hlt
      obtain ⟨pa, pcc, rfl⟩ := bytes_form hpub
      rw [List.drop_eq_getElem_cons hlt] at hwk
      obtain ⟨n2, t2, r2, wk2, hw2, rfl, hcase⟩ := Li.wire_one hwk
      have HX := Lib.hid (And.intro hLn (And.intro hLt (And.intro hBw (And.intro hLo (And.intro hLl (And.intro hTu (And.intro hpub hw2)))))))
      have HD := Lib.hid (And.intro hnow hthn)
      have HC := Lib.hid hcase
      have hnl : now.length + 2 ≤ 1000000000 := by have := HZ.out.1; have h := congrArg List.length hnow; rw [List.length_append] at h; omega
      have htl2 : thn.length + 1 ≤ 1000000000 := by have := HZ.out.2.1; have h := congrArg List.length hthn; rw [List.length_append] at h; omega
      clear hLn hLt hBw hLo hLl hTu hpub hw2 hcase hpc hwk hnow hthn
      rcases HC.out with ⟨rfl, rfl, hn2, ht2⟩ | ⟨x, rfl, hx⟩
      · rw [hn2, ht2] at HD
        clear hn2 ht2 HC
        have wl0 : (([] : List UInt8).length : Int) = 0 := rfl
        go_wp2_with (refine append_one rfl (.tmp 29) (.tmp 34) rfl (g := gr.ext wr.heap.size 1000) (t := tn) (t' := tb) rfl (HX.out.1.turn (Turn.alloc wr gr 1000 _) List.not_mem_nil List.not_mem_nil) rfl rfl (Bytes.turn HX.out.2.2.2.2.2.2.1 (Turn.alloc wr gr 1000 _) List.not_mem_nil) (Ne.symm hn.2.1) (by omega) ?_; intro a8 c8 w8 g8 L8 T8; have X8 := Lib.hid (And.intro L8 ((Turn.alloc wr gr 1000 _).trans T8 (V := [tn]) (by simp) (by simp))); clear L8 T8)
        have BW8 := Lib.hid (HX.out.2.2.1.turn X8.out.2 (fun h => HT1.out.2.2.2.1 (List.mem_cons.2 (.inl (List.mem_singleton.1 h)))))
        go_roundg (ps.length - (i + 1))
        case measure => omega
        case rel => exact ⟨i + 1, g8, now ++ [ps[i]], thn, n2, t2, _, hlt, rfl, by go_num, HX.out.2.2.2.2.2.2.2, by rw [List.append_assoc]; exact HD.out.1, HD.out.2, X8.out.1, HX.out.2.1.turn X8.out.2 HT1.out.2.2.2.2.2 (fun h => HT1.out.2.1 (List.mem_cons.2 (.inl (List.mem_singleton.1 h)))), BW8.out, HX.out.2.2.2.1.turn X8.out.2 (fun h => HT1.out.1 (List.mem_cons.2 (.inl (List.mem_singleton.1 h)))) (fun h => HT1.out.2.1 (List.mem_cons.2 (.inl (List.mem_singleton.1 h)))), HX.out.2.2.2.2.1.turn X8.out.2 (fun h => HT1.out.2.2.1 (List.mem_cons.2 (.inl (List.mem_singleton.1 h)))) (fun h => HT1.out.2.1 (List.mem_cons.2 (.inl (List.mem_singleton.1 h)))), HX.out.2.2.2.2.2.1.trans X8.out.2 (by simp) (by simp)⟩
      · obtain ⟨wb, wo, rfl, _, hwc⟩ := BytesIn.cells HX.out.2.2.1 (by simp)
        have c0 : wr.cell? ⟨wb, wo, none⟩ = some (.int .u8 (x.toNat : Int)) := by have := hwc 0 (by simp); rw [Nat.add_zero] at this; exact this
        have hcap : wk2.length + 1 ≤ wc ∧ wc ≤ maxLen := by
          obtain ⟨_, _, e, q1, q2, _⟩ := BytesIn.open_ HX.out.2.2.1
          simp only [Value.slice.injEq] at e
          obtain ⟨_, _, rfl⟩ := e
          exact ⟨q1, q2⟩
        obtain ⟨ad1, hsl, hs5, hs6⟩ := slice_lk (P := Try.prog) Try.underlying37 (by kernel_rfl) .i64 (some ⟨wb, wo, none⟩) (wk2.length + 1) wc 1 1 rfl (by omega)
        obtain ⟨a5, rfl⟩ : ∃ a5, ad1 = some a5 := by
          rcases Nat.lt_or_ge 1 wc with h | h
          · exact ⟨_, by rw [hs5 h, Option.map_some]⟩
          · exact ⟨_, hs6 (by omega)⟩
        have hpc := Bytes.cut HX.out.2.2.1 1 (wk2.length + 1) (wc - 1) (by omega) (by simp) (ad := a5) ⟨by omega, by omega⟩ (fun h => by have := hs5 (by omega); rw [Option.map_some, add_none] at this; exact Option.some.inj this)
        have hpc2 : Bytes wr gr tw (.slice (some a5) wk2.length (wc - 1)) wk2 := by
          have e : ((x :: wk2).drop 1).take (wk2.length + 1 - 1) = wk2 := by simp
          rw [e] at hpc; exact hpc
        have HP := Lib.hid hpc2
        rw [Nat.add_sub_cancel] at hsl
        have hxl := x.toNat_lt
        obtain ⟨y, hy⟩ : ∃ y, y = x.toNat := ⟨_, rfl⟩
        rw [← hy] at c0 hx hxl
        clear hwc hpc hpc2 hs5 hs6 hcap HC hy
        have wl0 : (0 : Int) < ((x :: wk2).length : Int) := by simp
        rcases hx with ⟨hk, hn2, ht2⟩ | ⟨hk, hn2, ht2⟩ | ⟨hk, hn2, ht2⟩ | ⟨hk, hn2, ht2⟩
        · have hk1 : (y : Int) % 6 = 0 := by omega
          rw [hn2, ht2] at HD
          clear hn2 ht2 hk
          go_wp2_with fail
          go_roundg (ps.length - (i + 1))
          case measure => omega
          case rel => exact ⟨i + 1, gr, now, thn, n2, t2, _, hlt, rfl, by go_num, HX.out.2.2.2.2.2.2.2, HD.out.1, HD.out.2, HX.out.1, HX.out.2.1, HP.out, HX.out.2.2.2.1, HX.out.2.2.2.2.1, HX.out.2.2.2.2.2.1⟩
        · have hk1 : (y : Int) % 6 = 1 := by omega
          rw [hn2, ht2] at HD
          clear hn2 ht2 hk
          go_wp2_with fail
          go_region_law (refine step_lists_two rfl (.tmp 40) (.tmp 49) rfl (g := gr.ext wr.drew.heap.size 1000) (t := tn) (t' := tb) rfl ((HX.out.1.turn (Turn.drew wr gr) List.not_mem_nil List.not_mem_nil).turn (Turn.alloc wr.drew gr 1000 _) List.not_mem_nil List.not_mem_nil) rfl rfl (Bytes.turn (Bytes.turn HX.out.2.2.2.2.2.2.1 (Turn.drew wr gr) List.not_mem_nil) (Turn.alloc wr.drew gr 1000 _) List.not_mem_nil) (Ne.symm hn.2.1) hnl ?_; intro a8 c8 w8 g8 L8 T8; have X8 := Lib.hid (And.intro L8 (((Turn.drew wr gr).trans (Turn.alloc wr.drew gr 1000 _) (V := []) (by simp) (by simp)).trans T8 (V := [tn]) (by simp) (by simp))); clear L8 T8)
          all_goals
            go_wp2_with fail
            have BW8 := Lib.hid (HP.out.turn X8.out.2 (fun h => HT1.out.2.2.2.1 (List.mem_cons.2 (.inl (List.mem_singleton.1 h)))))
            go_roundg (ps.length - (i + 1))
            case measure => omega
            case rel => exact ⟨i + 1, g8, now ++ [ps[i], ps[i]], thn, n2, t2, _, hlt, rfl, by go_num, HX.out.2.2.2.2.2.2.2, by rw [List.append_assoc]; exact HD.out.1, HD.out.2, X8.out.1, HX.out.2.1.turn X8.out.2 HT1.out.2.2.2.2.2 (fun h => HT1.out.2.1 (List.mem_cons.2 (.inl (List.mem_singleton.1 h)))), BW8.out, HX.out.2.2.2.1.turn X8.out.2 (fun h => HT1.out.1 (List.mem_cons.2 (.inl (List.mem_singleton.1 h)))) (fun h => HT1.out.2.1 (List.mem_cons.2 (.inl (List.mem_singleton.1 h)))), HX.out.2.2.2.2.1.turn X8.out.2 (fun h => HT1.out.2.2.1 (List.mem_cons.2 (.inl (List.mem_singleton.1 h)))) (fun h => HT1.out.2.1 (List.mem_cons.2 (.inl (List.mem_singleton.1 h)))), HX.out.2.2.2.2.2.1.trans X8.out.2 (by simp) (by simp)⟩
        · have hk1 : (y : Int) % 6 = 2 := by omega
          rw [hn2, ht2] at HD
          clear hn2 ht2 hk
          go_wp2_with (refine append_one rfl (.tmp 53) (.tmp 58) rfl (g := gr.ext wr.heap.size 1000) (t := tt) (t' := tb) rfl (HX.out.2.1.turn (Turn.alloc wr gr 1000 _) List.not_mem_nil List.not_mem_nil) rfl rfl (Bytes.turn HX.out.2.2.2.2.2.2.1 (Turn.alloc wr gr 1000 _) List.not_mem_nil) (Ne.symm ht.2.1) (by omega) ?_; intro a8 c8 w8 g8 L8 T8; have X8 := Lib.hid (And.intro L8 ((Turn.alloc wr gr 1000 _).trans T8 (V := [tt]) (by simp) (by simp))); clear L8 T8)
          go_roundg (ps.length - (i + 1))
          case measure => omega
          case rel => exact ⟨i + 1, g8, now, thn ++ [ps[i]], n2, t2, _, hlt, rfl, by go_num, HX.out.2.2.2.2.2.2.2, HD.out.1, by rw [List.append_assoc]; exact HD.out.2, HX.out.1.turn X8.out.2 HT1.out.2.2.2.2.1 (fun h => HT1.out.2.1 (List.mem_cons_of_mem _ h)), X8.out.1, HP.out.turn X8.out.2 (fun h => HT1.out.2.2.2.1 (List.mem_cons_of_mem _ h)), HX.out.2.2.2.1.turn X8.out.2 (fun h => HT1.out.1 (List.mem_cons_of_mem _ h)) (fun h => HT1.out.2.1 (List.mem_cons_of_mem _ h)), HX.out.2.2.2.2.1.turn X8.out.2 (fun h => HT1.out.2.2.1 (List.mem_cons_of_mem _ h)) (fun h => HT1.out.2.1 (List.mem_cons_of_mem _ h)), HX.out.2.2.2.2.2.1.trans X8.out.2 (by simp) (by simp)⟩
        · obtain ⟨k, hk2⟩ : ∃ k : Nat, k = y % 6 := ⟨_, rfl⟩
          have hk1 : (y : Int) % 6 = (k : Int) := by omega
          have k0 : ((k : Int) == 0) = false := by simp; omega
          have k1 : ((k : Int) == 1) = false := by simp; omega
          have k2 : ((k : Int) == 2) = false := by simp; omega
          rw [hn2, ht2] at HD
          clear hn2 ht2 hk hk2
          go_wp2_with (refine append_one rfl (.tmp 29) (.tmp 34) rfl (g := gr.ext wr.heap.size 1000) (t := tn) (t' := tb) rfl (HX.out.1.turn (Turn.alloc wr gr 1000 _) List.not_mem_nil List.not_mem_nil) rfl rfl (Bytes.turn HX.out.2.2.2.2.2.2.1 (Turn.alloc wr gr 1000 _) List.not_mem_nil) (Ne.symm hn.2.1) (by omega) ?_; intro a8 c8 w8 g8 L8 T8; have X8 := Lib.hid (And.intro L8 ((Turn.alloc wr gr 1000 _).trans T8 (V := [tn]) (by simp) (by simp))); clear L8 T8)
          have BW8 := Lib.hid (HP.out.turn X8.out.2 (fun h => HT1.out.2.2.2.1 (List.mem_cons.2 (.inl (List.mem_singleton.1 h)))))
          go_roundg (ps.length - (i + 1))
          case measure => omega
          case rel => exact ⟨i + 1, g8, now ++ [ps[i]], thn, n2, t2, _, hlt, rfl, by go_num, HX.out.2.2.2.2.2.2.2, by rw [List.append_assoc]; exact HD.out.1, HD.out.2, X8.out.1, HX.out.2.1.turn X8.out.2 HT1.out.2.2.2.2.2 (fun h => HT1.out.2.1 (List.mem_cons.2 (.inl (List.mem_singleton.1 h)))), BW8.out, HX.out.2.2.2.1.turn X8.out.2 (fun h => HT1.out.1 (List.mem_cons.2 (.inl (List.mem_singleton.1 h)))) (fun h => HT1.out.2.1 (List.mem_cons.2 (.inl (List.mem_singleton.1 h)))), HX.out.2.2.2.2.1.turn X8.out.2 (fun h => HT1.out.2.2.1 (List.mem_cons.2 (.inl (List.mem_singleton.1 h)))) (fun h => HT1.out.2.1 (List.mem_cons.2 (.inl (List.mem_singleton.1 h)))), HX.out.2.2.2.2.2.1.trans X8.out.2 (by simp) (by simp)⟩
    · obtain rfl : i = ps.length := by omega
      rw [List.drop_length, Li.wire] at hwk
      simp only [Prod.mk.injEq] at hwk
      obtain ⟨rfl, rfl, rfl⟩ := hwk
      rw [List.append_nil] at hnow hthn
      subst hnow
      subst hthn
      have HX := Lib.hid (And.intro hLn (And.intro hLt (And.intro hBw (And.intro hLl hTu))))
      clear hLn hLt hBw hLo hLl hTu hlt hi
      have hm : now.length + ls.length ≤ 1000000000 := by have := HZ.out.1; omega
      go_wp2_with (refine append_own rfl (.tmp 60) (.tmp 61) rfl (g := gr) (t := tn) (t' := tb) (tx := tl) rfl HX.out.1 rfl HX.out.2.2.2.1 (Ne.symm hn.2.1) hm ?_; intro a8 c8 w8 g8 L8 T8; have X8 := Lib.hid (And.intro L8 T8); clear L8 T8)
      go_ret3
      have e : (now ++ ls).length = now.length + ls.length := List.length_append
      refine ⟨a8, c8, ta, tc, wa, wc, g8, by simp, by rw [e]; exact X8.out.1, HX.out.2.1.turn X8.out.2 HT1.out.2.2.2.2.2 ?_, HX.out.2.2.1.turn X8.out.2 ?_, HX.out.2.2.2.2.trans X8.out.2 (by simp) (by simp)⟩
      · have := HT1.out.2.1; simp at this ⊢; omega
      · have := HT1.out.2.2.2.1; simp at this ⊢; omega
end Go.Proofs.Ytoedalocfepkoaa
