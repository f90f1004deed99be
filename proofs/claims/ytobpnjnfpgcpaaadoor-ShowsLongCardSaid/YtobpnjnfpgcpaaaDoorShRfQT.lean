/- Shows, as the document has it: an expression of two, no power. -/
import Derived.Test.YtobpnjnfpgcpaaaDoorShRfPT
namespace Go.Proofs.YtobpnjnfpgcpaaaDoor
open Go.RowKit Go.My Go.Nd



set_option maxRecDepth 100000 in
set_option maxHeartbeats 8000000 in
theorem rexpr_two1 {tw : Bool} {x a b : Nd} (hkk : x.kind = 5) (htx : x.text ≠ [94]) (hr : rkx 5 x.text = 1) (hi : x.l.items = [a, b]) (ga : RExprOk tw a) (gb : RExprOk tw b) (la : a.sh.length ≤ 17592186044416) (lb : b.sh.length ≤ 17592186044416) (htl : x.text.length ≤ 1048576) : RExprOk tw x := by
  intro w B v hB h
  have hv := h
  obtain ⟨a1, c1, a2, c2, a3, c3, rfl, hk, ht, hn1, hn2, hn3⟩ := h
  obtain ⟨hA, hn, hz⟩ := Put.new w #[.int .u8 (x.kind : Int), .string (tx x.text), .slice a1 x.l.len c1, .slice a2 x.body.len c2, .slice a3 x.els.len c3] 25
  obtain ⟨bx, hbx⟩ : ∃ bx, bx = w.heap.size := ⟨_, rfl⟩
  obtain ⟨w0, hw0⟩ : ∃ w0, w0 = w.alloc (.cells #[.int .u8 (x.kind : Int), .string (tx x.text), .slice a1 x.l.len c1, .slice a2 x.body.len c2, .slice a3 x.els.len c3] 25) := ⟨_, rfl⟩
  rw [← hw0] at hA hn hz
  rw [← hbx] at hn
  have hmB := hA.mono hB
  have hbox : BxIs tw w0 B bx x a1 c1 a2 c2 a3 c3 := ⟨hn, hk, ht, hn1.below hmB, hn2.below hmB, hn3.below hmB, Nat.le_trans hB hA.size⟩
  have X := Lib.hid (And.intro hA hbox)
  obtain ⟨q0, q1, q2, q3, q4, _, _, _, _, _⟩ := row5 hn
  have k0 : (0 : Int) ≤ (x.kind : Int) := by omega
  clear hA hn hz hmB hn1 hn2 hn3 hv hB ht hbox hk
  have hlen2 : x.l.items.length = 2 := by rw [hi]; rfl
  obtain ⟨b0, o0, z1, y1, z2, y2, z3, y3, rfl, _, hcA, hnA⟩ := X.out.2.child 0 (by omega)
  obtain ⟨b0', o0', u1, v1, u2, v2, u3, v3, heq, _, hcB, hnB⟩ := X.out.2.child 1 (by omega)
  cases heq
  have ha : x.l.items[0]'(by omega) = a := by simp [hi]
  have hb' : x.l.items[1]'(by omega) = b := by simp [hi]
  rw [ha] at hcA hnA
  rw [hb'] at hcB hnB
  have hl2 : x.l.len = 2 := hlen2
  have HL2 := Lib.hid hl2
  have hnv0 := X.out.2.nv
  rw [hl2] at hnv0 q2
  have HNV := Lib.hid hnv0
  have HC := Lib.hid (fun (w' : World) (hb : Below w0.heap.size w0 w') => And.intro (row5 (X.out.2.later hb).row) (And.intro (hcA w' hb) (hcB w' hb)))
  have HN := Lib.hid (And.intro hnA hnB)
  have HX := Lib.hid (And.intro ga (And.intro gb (And.intro la (And.intro lb htl))))
  have HK := Lib.hid (show (x.kind : Int) = 5 by omega)
  clear hcA hcB hnA hnB ga gb ha hb' hlen2 hnv0 hl2
  have hrk : x.rk = 1 := by unfold Nd.rk; rw [hkk]; exact hr
  have HRK := Lib.hid hrk
  obtain ⟨s, hs⟩ : ∃ s, s = inx a.rk 2 a.sh := ⟨_, rfl⟩
  have hsl := inx_len a.rk 2 a.sh
  rw [← hs] at hsl
  obtain ⟨t, ht'⟩ : ∃ t, t = inx b.rk 2 b.sh := ⟨_, rfl⟩
  have htl2 := inx_len b.rk 2 b.sh
  rw [← ht'] at htl2
  have hR : x.sh = s ++ [32] ++ x.text ++ [32] ++ t := by
    unfold Nd.sh shOne
    rw [hkk, sh_items, hi, if_neg (by decide), if_neg (by decide), if_neg (by decide), if_neg (by decide), if_pos rfl, if_neg htx, hr, hs, ht']; rfl
  have ad1 : ∀ wx, (Op.stringOp .add (bs s) ⟨#[32]⟩).run Tryd.prog wx = .ok (.string (bs (s ++ [32]))) wx := add_any s [32] (by simp; omega)
  have ad2 : ∀ wx, (Op.stringOp .add (bs (s ++ [32])) (tx x.text)).run Tryd.prog wx = .ok (.string (bs (s ++ [32] ++ x.text))) wx := add_any (s ++ [32]) x.text (by simp; omega)
  have ad3 : ∀ wx, (Op.stringOp .add (bs (s ++ [32] ++ x.text)) ⟨#[32]⟩).run Tryd.prog wx = .ok (.string (bs (s ++ [32] ++ x.text ++ [32]))) wx := add_any (s ++ [32] ++ x.text) [32] (by simp; omega)
  have ad4 : ∀ wx, (Op.stringOp .add (bs (s ++ [32] ++ x.text ++ [32])) (bs t)).run Tryd.prog wx = .ok (.string (bs (s ++ [32] ++ x.text ++ [32] ++ t))) wx := add_any (s ++ [32] ++ x.text ++ [32]) t (by simp; omega)
  rw [← hR] at ad4
  obtain ⟨s1, hs1⟩ : ∃ s1, s1 = s ++ [32] := ⟨_, rfl⟩
  rw [← hs1] at ad1 ad2 ad3 ad4
  obtain ⟨s2, hs2⟩ : ∃ s2, s2 = s1 ++ x.text := ⟨_, rfl⟩
  rw [← hs2] at ad2 ad3 ad4
  obtain ⟨s3, hs3⟩ : ∃ s3, s3 = s2 ++ [32] := ⟨_, rfl⟩
  rw [← hs3] at ad3 ad4
  obtain ⟨z, hz⟩ : ∃ z, z = x.sh := ⟨_, rfl⟩
  rw [← hz] at ad4 ⊢
  have HS := Lib.hid (And.intro hs ht')
  clear hs hs1 hs2 hs3 ht' hR hsl htl2 hkk hz htl hrk htx hr hi la lb
  go_enter Tryd.func17, Tryd.ntmps17
  go_upto_region 1 with fail
  rw [← hbx, ← hw0]
  clear hbx hw0
  go_wp2_with fail
  refine (rank_r HNV.out).mono ?_
  rintro e w1 ⟨rfl, hb⟩
  rw [HRK.out]
  have Y := Lib.hid (And.intro (X.out.1.trans (hb.mono X.out.1.size)) (And.intro hb (Nat.le_trans X.out.2.hB hb.size)))
  have NA := Lib.hid (HN.out.1 w1 hb)
  have NB := Lib.hid (HN.out.2 w1 hb)
  clear hb q0 q1 q2 q3 q4
  obtain ⟨⟨q0, q1, q2, q3, q4, _, _, _, _, _⟩, ⟨d0, d1, d2, d3, d4⟩, ⟨e0, e1, e2, e3, e4⟩⟩ := HC.out w1 Y.out.2.1
  rw [HL2.out] at q2
  rw [HK.out] at q0
  simp only [Nat.zero_mul, Nat.one_mul, Nat.add_zero] at d0 d1 d2 d3 d4 e0 e1 e2 e3 e4
  have KS := Lib.hid (fun (w' : World) (hb : Below w1.heap.size w1 w') => (show (w'.cell? ⟨bx, 1, none⟩ = some (.string (tx x.text)) ∧ w'.cell? ⟨bx, 2, none⟩ = some (.slice (some ⟨b0, o0, none⟩) 2 c1)) ∧ (w'.cell? ⟨b0, o0, none⟩ = some (.int .u8 (a.kind : Int)) ∧ w'.cell? ⟨b0, o0 + 1, none⟩ = some (.string (tx a.text)) ∧ w'.cell? ⟨b0, o0 + 2, none⟩ = some (.slice z1 a.l.len y1) ∧ w'.cell? ⟨b0, o0 + 3, none⟩ = some (.slice z2 a.body.len y2) ∧ w'.cell? ⟨b0, o0 + 4, none⟩ = some (.slice z3 a.els.len y3)) ∧ (w'.cell? ⟨b0, o0 + 5, none⟩ = some (.int .u8 (b.kind : Int)) ∧ w'.cell? ⟨b0, o0 + 5 + 1, none⟩ = some (.string (tx b.text)) ∧ w'.cell? ⟨b0, o0 + 5 + 2, none⟩ = some (.slice u1 b.l.len v1) ∧ w'.cell? ⟨b0, o0 + 5 + 3, none⟩ = some (.slice u2 b.body.len v2) ∧ w'.cell? ⟨b0, o0 + 5 + 4, none⟩ = some (.slice u3 b.els.len v3)) from by
    obtain ⟨⟨_, p1, p2, _, _, _, _, _, _, _⟩, f, g⟩ := HC.out w' (Y.out.2.1.trans (hb.mono Y.out.2.1.size))
    rw [HL2.out] at p2
    simp only [Nat.zero_mul, Nat.one_mul, Nat.add_zero] at f g
    exact ⟨⟨p1, p2⟩, f, g⟩))
  go_upto_region 17 with fail
  go_region_held3 (fun w' => ((w'.cell? ⟨bx, 1, none⟩ = some (.string (tx x.text)) ∧ w'.cell? ⟨bx, 2, none⟩ = some (.slice (some ⟨b0, o0, none⟩) 2 c1)) ∧ (w'.cell? ⟨b0, o0, none⟩ = some (.int .u8 (a.kind : Int)) ∧ w'.cell? ⟨b0, o0 + 1, none⟩ = some (.string (tx a.text)) ∧ w'.cell? ⟨b0, o0 + 2, none⟩ = some (.slice z1 a.l.len y1) ∧ w'.cell? ⟨b0, o0 + 3, none⟩ = some (.slice z2 a.body.len y2) ∧ w'.cell? ⟨b0, o0 + 4, none⟩ = some (.slice z3 a.els.len y3)) ∧ (w'.cell? ⟨b0, o0 + 5, none⟩ = some (.int .u8 (b.kind : Int)) ∧ w'.cell? ⟨b0, o0 + 5 + 1, none⟩ = some (.string (tx b.text)) ∧ w'.cell? ⟨b0, o0 + 5 + 2, none⟩ = some (.slice u1 b.l.len v1) ∧ w'.cell? ⟨b0, o0 + 5 + 3, none⟩ = some (.slice u2 b.body.len v2) ∧ w'.cell? ⟨b0, o0 + 5 + 4, none⟩ = some (.slice u3 b.els.len v3))) ∧ Below w1.heap.size w1 w')
    (first | assumption | exact ⟨KS.out _ (Below.refl _ _).drew, (Below.refl _ _).drew⟩ | exact ⟨KS.out _ (keepW (by assumption) (by assumption)), keepW (by assumption) (by assumption)⟩)
    (first
      | (go_at_call_of 34 (Value.agg #[.int .u8 (a.kind : Int), .string (tx a.text), .slice z1 a.l.len y1, .slice z2 a.body.len y2, .slice z3 a.els.len y3]); refine (inR Y.out.2.2 HX.out.1 HX.out.2.2.1 NA.out 2 (by decide) HS.out.1 (by assumption)).mono ?_; rintro e w'' ⟨rfl, hk⟩)
      | (go_at_call_of 34 (Value.agg #[.int .u8 (b.kind : Int), .string (tx b.text), .slice u1 b.l.len v1, .slice u2 b.body.len v2, .slice u3 b.els.len v3]); refine (inR Y.out.2.2 HX.out.2.1 HX.out.2.2.2.1 NB.out 2 (by decide) HS.out.2 (by assumption)).mono ?_; rintro e w'' ⟨rfl, hk⟩))
  rename_i hH
  have K := Lib.hid (Y.out.1.trans (hH.2.mono Y.out.1.size))
  clear hH
  go_wp2_with fail
  go_ret
  exact ⟨rfl, K.out⟩

set_option maxRecDepth 100000 in
set_option maxHeartbeats 8000000 in
theorem rexpr_two2 {tw : Bool} {x a b : Nd} (hkk : x.kind = 5) (htx : x.text ≠ [94]) (hr : rkx 5 x.text = 2) (hi : x.l.items = [a, b]) (ga : RExprOk tw a) (gb : RExprOk tw b) (la : a.sh.length ≤ 17592186044416) (lb : b.sh.length ≤ 17592186044416) (htl : x.text.length ≤ 1048576) : RExprOk tw x := by
  intro w B v hB h
  have hv := h
  obtain ⟨a1, c1, a2, c2, a3, c3, rfl, hk, ht, hn1, hn2, hn3⟩ := h
  obtain ⟨hA, hn, hz⟩ := Put.new w #[.int .u8 (x.kind : Int), .string (tx x.text), .slice a1 x.l.len c1, .slice a2 x.body.len c2, .slice a3 x.els.len c3] 25
  obtain ⟨bx, hbx⟩ : ∃ bx, bx = w.heap.size := ⟨_, rfl⟩
  obtain ⟨w0, hw0⟩ : ∃ w0, w0 = w.alloc (.cells #[.int .u8 (x.kind : Int), .string (tx x.text), .slice a1 x.l.len c1, .slice a2 x.body.len c2, .slice a3 x.els.len c3] 25) := ⟨_, rfl⟩
  rw [← hw0] at hA hn hz
  rw [← hbx] at hn
  have hmB := hA.mono hB
  have hbox : BxIs tw w0 B bx x a1 c1 a2 c2 a3 c3 := ⟨hn, hk, ht, hn1.below hmB, hn2.below hmB, hn3.below hmB, Nat.le_trans hB hA.size⟩
  have X := Lib.hid (And.intro hA hbox)
  obtain ⟨q0, q1, q2, q3, q4, _, _, _, _, _⟩ := row5 hn
  have k0 : (0 : Int) ≤ (x.kind : Int) := by omega
  clear hA hn hz hmB hn1 hn2 hn3 hv hB ht hbox hk
  have hlen2 : x.l.items.length = 2 := by rw [hi]; rfl
  obtain ⟨b0, o0, z1, y1, z2, y2, z3, y3, rfl, _, hcA, hnA⟩ := X.out.2.child 0 (by omega)
  obtain ⟨b0', o0', u1, v1, u2, v2, u3, v3, heq, _, hcB, hnB⟩ := X.out.2.child 1 (by omega)
  cases heq
  have ha : x.l.items[0]'(by omega) = a := by simp [hi]
  have hb' : x.l.items[1]'(by omega) = b := by simp [hi]
  rw [ha] at hcA hnA
  rw [hb'] at hcB hnB
  have hl2 : x.l.len = 2 := hlen2
  have HL2 := Lib.hid hl2
  have hnv0 := X.out.2.nv
  rw [hl2] at hnv0 q2
  have HNV := Lib.hid hnv0
  have HC := Lib.hid (fun (w' : World) (hb : Below w0.heap.size w0 w') => And.intro (row5 (X.out.2.later hb).row) (And.intro (hcA w' hb) (hcB w' hb)))
  have HN := Lib.hid (And.intro hnA hnB)
  have HX := Lib.hid (And.intro ga (And.intro gb (And.intro la (And.intro lb htl))))
  have HK := Lib.hid (show (x.kind : Int) = 5 by omega)
  clear hcA hcB hnA hnB ga gb ha hb' hlen2 hnv0 hl2
  have hrk : x.rk = 2 := by unfold Nd.rk; rw [hkk]; exact hr
  have HRK := Lib.hid hrk
  obtain ⟨s, hs⟩ : ∃ s, s = inx a.rk 2 a.sh := ⟨_, rfl⟩
  have hsl := inx_len a.rk 2 a.sh
  rw [← hs] at hsl
  obtain ⟨t, ht'⟩ : ∃ t, t = inx b.rk 3 b.sh := ⟨_, rfl⟩
  have htl2 := inx_len b.rk 3 b.sh
  rw [← ht'] at htl2
  have hR : x.sh = s ++ [32] ++ x.text ++ [32] ++ t := by
    unfold Nd.sh shOne
    rw [hkk, sh_items, hi, if_neg (by decide), if_neg (by decide), if_neg (by decide), if_neg (by decide), if_pos rfl, if_neg htx, hr, hs, ht']; rfl
  have ad1 : ∀ wx, (Op.stringOp .add (bs s) ⟨#[32]⟩).run Tryd.prog wx = .ok (.string (bs (s ++ [32]))) wx := add_any s [32] (by simp; omega)
  have ad2 : ∀ wx, (Op.stringOp .add (bs (s ++ [32])) (tx x.text)).run Tryd.prog wx = .ok (.string (bs (s ++ [32] ++ x.text))) wx := add_any (s ++ [32]) x.text (by simp; omega)
  have ad3 : ∀ wx, (Op.stringOp .add (bs (s ++ [32] ++ x.text)) ⟨#[32]⟩).run Tryd.prog wx = .ok (.string (bs (s ++ [32] ++ x.text ++ [32]))) wx := add_any (s ++ [32] ++ x.text) [32] (by simp; omega)
  have ad4 : ∀ wx, (Op.stringOp .add (bs (s ++ [32] ++ x.text ++ [32])) (bs t)).run Tryd.prog wx = .ok (.string (bs (s ++ [32] ++ x.text ++ [32] ++ t))) wx := add_any (s ++ [32] ++ x.text ++ [32]) t (by simp; omega)
  rw [← hR] at ad4
  obtain ⟨s1, hs1⟩ : ∃ s1, s1 = s ++ [32] := ⟨_, rfl⟩
  rw [← hs1] at ad1 ad2 ad3 ad4
  obtain ⟨s2, hs2⟩ : ∃ s2, s2 = s1 ++ x.text := ⟨_, rfl⟩
  rw [← hs2] at ad2 ad3 ad4
  obtain ⟨s3, hs3⟩ : ∃ s3, s3 = s2 ++ [32] := ⟨_, rfl⟩
  rw [← hs3] at ad3 ad4
  obtain ⟨z, hz⟩ : ∃ z, z = x.sh := ⟨_, rfl⟩
  rw [← hz] at ad4 ⊢
  have HS := Lib.hid (And.intro hs ht')
  clear hs hs1 hs2 hs3 ht' hR hsl htl2 hkk hz htl hrk htx hr hi la lb
  go_enter Tryd.func17, Tryd.ntmps17
  go_upto_region 1 with fail
  rw [← hbx, ← hw0]
  clear hbx hw0
  go_wp2_with fail
  refine (rank_r HNV.out).mono ?_
  rintro e w1 ⟨rfl, hb⟩
  rw [HRK.out]
  have Y := Lib.hid (And.intro (X.out.1.trans (hb.mono X.out.1.size)) (And.intro hb (Nat.le_trans X.out.2.hB hb.size)))
  have NA := Lib.hid (HN.out.1 w1 hb)
  have NB := Lib.hid (HN.out.2 w1 hb)
  clear hb q0 q1 q2 q3 q4
  obtain ⟨⟨q0, q1, q2, q3, q4, _, _, _, _, _⟩, ⟨d0, d1, d2, d3, d4⟩, ⟨e0, e1, e2, e3, e4⟩⟩ := HC.out w1 Y.out.2.1
  rw [HL2.out] at q2
  rw [HK.out] at q0
  simp only [Nat.zero_mul, Nat.one_mul, Nat.add_zero] at d0 d1 d2 d3 d4 e0 e1 e2 e3 e4
  have KS := Lib.hid (fun (w' : World) (hb : Below w1.heap.size w1 w') => (show (w'.cell? ⟨bx, 1, none⟩ = some (.string (tx x.text)) ∧ w'.cell? ⟨bx, 2, none⟩ = some (.slice (some ⟨b0, o0, none⟩) 2 c1)) ∧ (w'.cell? ⟨b0, o0, none⟩ = some (.int .u8 (a.kind : Int)) ∧ w'.cell? ⟨b0, o0 + 1, none⟩ = some (.string (tx a.text)) ∧ w'.cell? ⟨b0, o0 + 2, none⟩ = some (.slice z1 a.l.len y1) ∧ w'.cell? ⟨b0, o0 + 3, none⟩ = some (.slice z2 a.body.len y2) ∧ w'.cell? ⟨b0, o0 + 4, none⟩ = some (.slice z3 a.els.len y3)) ∧ (w'.cell? ⟨b0, o0 + 5, none⟩ = some (.int .u8 (b.kind : Int)) ∧ w'.cell? ⟨b0, o0 + 5 + 1, none⟩ = some (.string (tx b.text)) ∧ w'.cell? ⟨b0, o0 + 5 + 2, none⟩ = some (.slice u1 b.l.len v1) ∧ w'.cell? ⟨b0, o0 + 5 + 3, none⟩ = some (.slice u2 b.body.len v2) ∧ w'.cell? ⟨b0, o0 + 5 + 4, none⟩ = some (.slice u3 b.els.len v3)) from by
    obtain ⟨⟨_, p1, p2, _, _, _, _, _, _, _⟩, f, g⟩ := HC.out w' (Y.out.2.1.trans (hb.mono Y.out.2.1.size))
    rw [HL2.out] at p2
    simp only [Nat.zero_mul, Nat.one_mul, Nat.add_zero] at f g
    exact ⟨⟨p1, p2⟩, f, g⟩))
  go_upto_region 17 with fail
  go_region_held3 (fun w' => ((w'.cell? ⟨bx, 1, none⟩ = some (.string (tx x.text)) ∧ w'.cell? ⟨bx, 2, none⟩ = some (.slice (some ⟨b0, o0, none⟩) 2 c1)) ∧ (w'.cell? ⟨b0, o0, none⟩ = some (.int .u8 (a.kind : Int)) ∧ w'.cell? ⟨b0, o0 + 1, none⟩ = some (.string (tx a.text)) ∧ w'.cell? ⟨b0, o0 + 2, none⟩ = some (.slice z1 a.l.len y1) ∧ w'.cell? ⟨b0, o0 + 3, none⟩ = some (.slice z2 a.body.len y2) ∧ w'.cell? ⟨b0, o0 + 4, none⟩ = some (.slice z3 a.els.len y3)) ∧ (w'.cell? ⟨b0, o0 + 5, none⟩ = some (.int .u8 (b.kind : Int)) ∧ w'.cell? ⟨b0, o0 + 5 + 1, none⟩ = some (.string (tx b.text)) ∧ w'.cell? ⟨b0, o0 + 5 + 2, none⟩ = some (.slice u1 b.l.len v1) ∧ w'.cell? ⟨b0, o0 + 5 + 3, none⟩ = some (.slice u2 b.body.len v2) ∧ w'.cell? ⟨b0, o0 + 5 + 4, none⟩ = some (.slice u3 b.els.len v3))) ∧ Below w1.heap.size w1 w')
    (first | assumption | exact ⟨KS.out _ (Below.refl _ _).drew, (Below.refl _ _).drew⟩ | exact ⟨KS.out _ (keepW (by assumption) (by assumption)), keepW (by assumption) (by assumption)⟩)
    (first
      | (go_at_call_of 34 (Value.agg #[.int .u8 (a.kind : Int), .string (tx a.text), .slice z1 a.l.len y1, .slice z2 a.body.len y2, .slice z3 a.els.len y3]); refine (inR Y.out.2.2 HX.out.1 HX.out.2.2.1 NA.out 2 (by decide) HS.out.1 (by assumption)).mono ?_; rintro e w'' ⟨rfl, hk⟩)
      | (go_at_call_of 34 (Value.agg #[.int .u8 (b.kind : Int), .string (tx b.text), .slice u1 b.l.len v1, .slice u2 b.body.len v2, .slice u3 b.els.len v3]); refine (inR Y.out.2.2 HX.out.2.1 HX.out.2.2.2.1 NB.out 3 (by decide) HS.out.2 (by assumption)).mono ?_; rintro e w'' ⟨rfl, hk⟩))
  rename_i hH
  have K := Lib.hid (Y.out.1.trans (hH.2.mono Y.out.1.size))
  clear hH
  go_wp2_with fail
  go_ret
  exact ⟨rfl, K.out⟩

set_option maxRecDepth 100000 in
set_option maxHeartbeats 8000000 in
theorem rexpr_two3 {tw : Bool} {x a b : Nd} (hkk : x.kind = 5) (htx : x.text ≠ [94]) (hr : rkx 5 x.text = 3) (hi : x.l.items = [a, b]) (ga : RExprOk tw a) (gb : RExprOk tw b) (la : a.sh.length ≤ 17592186044416) (lb : b.sh.length ≤ 17592186044416) (htl : x.text.length ≤ 1048576) : RExprOk tw x := by
  intro w B v hB h
  have hv := h
  obtain ⟨a1, c1, a2, c2, a3, c3, rfl, hk, ht, hn1, hn2, hn3⟩ := h
  obtain ⟨hA, hn, hz⟩ := Put.new w #[.int .u8 (x.kind : Int), .string (tx x.text), .slice a1 x.l.len c1, .slice a2 x.body.len c2, .slice a3 x.els.len c3] 25
  obtain ⟨bx, hbx⟩ : ∃ bx, bx = w.heap.size := ⟨_, rfl⟩
  obtain ⟨w0, hw0⟩ : ∃ w0, w0 = w.alloc (.cells #[.int .u8 (x.kind : Int), .string (tx x.text), .slice a1 x.l.len c1, .slice a2 x.body.len c2, .slice a3 x.els.len c3] 25) := ⟨_, rfl⟩
  rw [← hw0] at hA hn hz
  rw [← hbx] at hn
  have hmB := hA.mono hB
  have hbox : BxIs tw w0 B bx x a1 c1 a2 c2 a3 c3 := ⟨hn, hk, ht, hn1.below hmB, hn2.below hmB, hn3.below hmB, Nat.le_trans hB hA.size⟩
  have X := Lib.hid (And.intro hA hbox)
  obtain ⟨q0, q1, q2, q3, q4, _, _, _, _, _⟩ := row5 hn
  have k0 : (0 : Int) ≤ (x.kind : Int) := by omega
  clear hA hn hz hmB hn1 hn2 hn3 hv hB ht hbox hk
  have hlen2 : x.l.items.length = 2 := by rw [hi]; rfl
  obtain ⟨b0, o0, z1, y1, z2, y2, z3, y3, rfl, _, hcA, hnA⟩ := X.out.2.child 0 (by omega)
  obtain ⟨b0', o0', u1, v1, u2, v2, u3, v3, heq, _, hcB, hnB⟩ := X.out.2.child 1 (by omega)
  cases heq
  have ha : x.l.items[0]'(by omega) = a := by simp [hi]
  have hb' : x.l.items[1]'(by omega) = b := by simp [hi]
  rw [ha] at hcA hnA
  rw [hb'] at hcB hnB
  have hl2 : x.l.len = 2 := hlen2
  have HL2 := Lib.hid hl2
  have hnv0 := X.out.2.nv
  rw [hl2] at hnv0 q2
  have HNV := Lib.hid hnv0
  have HC := Lib.hid (fun (w' : World) (hb : Below w0.heap.size w0 w') => And.intro (row5 (X.out.2.later hb).row) (And.intro (hcA w' hb) (hcB w' hb)))
  have HN := Lib.hid (And.intro hnA hnB)
  have HX := Lib.hid (And.intro ga (And.intro gb (And.intro la (And.intro lb htl))))
  have HK := Lib.hid (show (x.kind : Int) = 5 by omega)
  clear hcA hcB hnA hnB ga gb ha hb' hlen2 hnv0 hl2
  have hrk : x.rk = 3 := by unfold Nd.rk; rw [hkk]; exact hr
  have HRK := Lib.hid hrk
  obtain ⟨s, hs⟩ : ∃ s, s = inx a.rk 3 a.sh := ⟨_, rfl⟩
  have hsl := inx_len a.rk 3 a.sh
  rw [← hs] at hsl
  obtain ⟨t, ht'⟩ : ∃ t, t = inx b.rk 4 b.sh := ⟨_, rfl⟩
  have htl2 := inx_len b.rk 4 b.sh
  rw [← ht'] at htl2
  have hR : x.sh = s ++ [32] ++ x.text ++ [32] ++ t := by
    unfold Nd.sh shOne
    rw [hkk, sh_items, hi, if_neg (by decide), if_neg (by decide), if_neg (by decide), if_neg (by decide), if_pos rfl, if_neg htx, hr, hs, ht']; rfl
  have ad1 : ∀ wx, (Op.stringOp .add (bs s) ⟨#[32]⟩).run Tryd.prog wx = .ok (.string (bs (s ++ [32]))) wx := add_any s [32] (by simp; omega)
  have ad2 : ∀ wx, (Op.stringOp .add (bs (s ++ [32])) (tx x.text)).run Tryd.prog wx = .ok (.string (bs (s ++ [32] ++ x.text))) wx := add_any (s ++ [32]) x.text (by simp; omega)
  have ad3 : ∀ wx, (Op.stringOp .add (bs (s ++ [32] ++ x.text)) ⟨#[32]⟩).run Tryd.prog wx = .ok (.string (bs (s ++ [32] ++ x.text ++ [32]))) wx := add_any (s ++ [32] ++ x.text) [32] (by simp; omega)
  have ad4 : ∀ wx, (Op.stringOp .add (bs (s ++ [32] ++ x.text ++ [32])) (bs t)).run Tryd.prog wx = .ok (.string (bs (s ++ [32] ++ x.text ++ [32] ++ t))) wx := add_any (s ++ [32] ++ x.text ++ [32]) t (by simp; omega)
  rw [← hR] at ad4
  obtain ⟨s1, hs1⟩ : ∃ s1, s1 = s ++ [32] := ⟨_, rfl⟩
  rw [← hs1] at ad1 ad2 ad3 ad4
  obtain ⟨s2, hs2⟩ : ∃ s2, s2 = s1 ++ x.text := ⟨_, rfl⟩
  rw [← hs2] at ad2 ad3 ad4
  obtain ⟨s3, hs3⟩ : ∃ s3, s3 = s2 ++ [32] := ⟨_, rfl⟩
  rw [← hs3] at ad3 ad4
  obtain ⟨z, hz⟩ : ∃ z, z = x.sh := ⟨_, rfl⟩
  rw [← hz] at ad4 ⊢
  have HS := Lib.hid (And.intro hs ht')
  clear hs hs1 hs2 hs3 ht' hR hsl htl2 hkk hz htl hrk htx hr hi la lb
  go_enter Tryd.func17, Tryd.ntmps17
  go_upto_region 1 with fail
  rw [← hbx, ← hw0]
  clear hbx hw0
  go_wp2_with fail
  refine (rank_r HNV.out).mono ?_
  rintro e w1 ⟨rfl, hb⟩
  rw [HRK.out]
  have Y := Lib.hid (And.intro (X.out.1.trans (hb.mono X.out.1.size)) (And.intro hb (Nat.le_trans X.out.2.hB hb.size)))
  have NA := Lib.hid (HN.out.1 w1 hb)
  have NB := Lib.hid (HN.out.2 w1 hb)
  clear hb q0 q1 q2 q3 q4
  obtain ⟨⟨q0, q1, q2, q3, q4, _, _, _, _, _⟩, ⟨d0, d1, d2, d3, d4⟩, ⟨e0, e1, e2, e3, e4⟩⟩ := HC.out w1 Y.out.2.1
  rw [HL2.out] at q2
  rw [HK.out] at q0
  simp only [Nat.zero_mul, Nat.one_mul, Nat.add_zero] at d0 d1 d2 d3 d4 e0 e1 e2 e3 e4
  have KS := Lib.hid (fun (w' : World) (hb : Below w1.heap.size w1 w') => (show (w'.cell? ⟨bx, 1, none⟩ = some (.string (tx x.text)) ∧ w'.cell? ⟨bx, 2, none⟩ = some (.slice (some ⟨b0, o0, none⟩) 2 c1)) ∧ (w'.cell? ⟨b0, o0, none⟩ = some (.int .u8 (a.kind : Int)) ∧ w'.cell? ⟨b0, o0 + 1, none⟩ = some (.string (tx a.text)) ∧ w'.cell? ⟨b0, o0 + 2, none⟩ = some (.slice z1 a.l.len y1) ∧ w'.cell? ⟨b0, o0 + 3, none⟩ = some (.slice z2 a.body.len y2) ∧ w'.cell? ⟨b0, o0 + 4, none⟩ = some (.slice z3 a.els.len y3)) ∧ (w'.cell? ⟨b0, o0 + 5, none⟩ = some (.int .u8 (b.kind : Int)) ∧ w'.cell? ⟨b0, o0 + 5 + 1, none⟩ = some (.string (tx b.text)) ∧ w'.cell? ⟨b0, o0 + 5 + 2, none⟩ = some (.slice u1 b.l.len v1) ∧ w'.cell? ⟨b0, o0 + 5 + 3, none⟩ = some (.slice u2 b.body.len v2) ∧ w'.cell? ⟨b0, o0 + 5 + 4, none⟩ = some (.slice u3 b.els.len v3)) from by
    obtain ⟨⟨_, p1, p2, _, _, _, _, _, _, _⟩, f, g⟩ := HC.out w' (Y.out.2.1.trans (hb.mono Y.out.2.1.size))
    rw [HL2.out] at p2
    simp only [Nat.zero_mul, Nat.one_mul, Nat.add_zero] at f g
    exact ⟨⟨p1, p2⟩, f, g⟩))
  go_upto_region 17 with fail
  go_region_held3 (fun w' => ((w'.cell? ⟨bx, 1, none⟩ = some (.string (tx x.text)) ∧ w'.cell? ⟨bx, 2, none⟩ = some (.slice (some ⟨b0, o0, none⟩) 2 c1)) ∧ (w'.cell? ⟨b0, o0, none⟩ = some (.int .u8 (a.kind : Int)) ∧ w'.cell? ⟨b0, o0 + 1, none⟩ = some (.string (tx a.text)) ∧ w'.cell? ⟨b0, o0 + 2, none⟩ = some (.slice z1 a.l.len y1) ∧ w'.cell? ⟨b0, o0 + 3, none⟩ = some (.slice z2 a.body.len y2) ∧ w'.cell? ⟨b0, o0 + 4, none⟩ = some (.slice z3 a.els.len y3)) ∧ (w'.cell? ⟨b0, o0 + 5, none⟩ = some (.int .u8 (b.kind : Int)) ∧ w'.cell? ⟨b0, o0 + 5 + 1, none⟩ = some (.string (tx b.text)) ∧ w'.cell? ⟨b0, o0 + 5 + 2, none⟩ = some (.slice u1 b.l.len v1) ∧ w'.cell? ⟨b0, o0 + 5 + 3, none⟩ = some (.slice u2 b.body.len v2) ∧ w'.cell? ⟨b0, o0 + 5 + 4, none⟩ = some (.slice u3 b.els.len v3))) ∧ Below w1.heap.size w1 w')
    (first | assumption | exact ⟨KS.out _ (Below.refl _ _).drew, (Below.refl _ _).drew⟩ | exact ⟨KS.out _ (keepW (by assumption) (by assumption)), keepW (by assumption) (by assumption)⟩)
    (first
      | (go_at_call_of 34 (Value.agg #[.int .u8 (a.kind : Int), .string (tx a.text), .slice z1 a.l.len y1, .slice z2 a.body.len y2, .slice z3 a.els.len y3]); refine (inR Y.out.2.2 HX.out.1 HX.out.2.2.1 NA.out 3 (by decide) HS.out.1 (by assumption)).mono ?_; rintro e w'' ⟨rfl, hk⟩)
      | (go_at_call_of 34 (Value.agg #[.int .u8 (b.kind : Int), .string (tx b.text), .slice u1 b.l.len v1, .slice u2 b.body.len v2, .slice u3 b.els.len v3]); refine (inR Y.out.2.2 HX.out.2.1 HX.out.2.2.2.1 NB.out 4 (by decide) HS.out.2 (by assumption)).mono ?_; rintro e w'' ⟨rfl, hk⟩))
  rename_i hH
  have K := Lib.hid (Y.out.1.trans (hH.2.mono Y.out.1.size))
  clear hH
  go_wp2_with fail
  go_ret
  exact ⟨rfl, K.out⟩
end Go.Proofs.YtobpnjnfpgcpaaaDoor
