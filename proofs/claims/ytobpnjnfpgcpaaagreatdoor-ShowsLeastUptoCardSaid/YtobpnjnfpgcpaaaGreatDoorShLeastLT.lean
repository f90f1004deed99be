/- The statement ShowsLeast: its walk. -/
import Derived.Test.YtobpnjnfpgcpaaaGreatDoorShCanonT
import Derived.Test.YtobpnjnfpgcpaaaGreatDoorNdSizeVT
import Derived.Test.YtobpnjnfpgcpaaaGreatDoorNdSameT
import Derived.Test.YtobpnjnfpgcpaaaGreatDoorTrA2
import Derived.Test.YtobpnjnfpgcpaaaGreatDoorShLeastWT
import Derived.StillTailTactics
import Derived.Deep.RegionLaw
namespace Go.Proofs.YtobpnjnfpgcpaaaGreatDoor
open Go.RowKit Go.My Go.Nd

theorem showE_two (x : Nd) : (showE wrapI x = ([], 1) ∧ check wrapI (stOf x) = false) ∨ (showE wrapI x = (x.sh, 0) ∧ check wrapI (stOf x) = true) := by
  unfold showE
  cases hc : check wrapI (stOf x) with
  | false => exact .inl ⟨rfl, rfl⟩
  | true => exact .inr ⟨rfl, rfl⟩

theorem Put.new_lt (w : World) (cs : Array Value) (T : TypeId) : w.heap.size < (w.drew.alloc (.cells cs T)).heap.size := by have := (Put.new w.drew cs T).2.2; have e : w.drew.heap.size = w.heap.size := rfl; omega

def SkAt (w : World) (s : Tx) (i : Nat) (v67 : Value) (wx : World) : Prop := ∃ β : Bool, v67 = .bool β ∧ (β = false → s[i]? = some 40) ∧ Below w.heap.size w wx
def LeAt (w : World) (n : Nat) (gk : Nat) (v5 : Value) (wr : World) : Prop := ∃ i, i ≤ n ∧ gk = n - i ∧ v5 = .int .i64 (i : Int) ∧ Below w.heap.size w wr
def DpAt (w : World) (s : Tx) (i gk : Nat) (v6 v7 : Value) (wr : World) : Prop :=
  ∃ k, i ≤ k ∧ k ≤ s.length ∧ gk = s.length - k ∧ v6 = .int .i64 (deepAt s i k) ∧ v7 = .int .i64 (k : Int) ∧ (k = i ∨ 1 ≤ deepAt s i k) ∧ Below w.heap.size w wr

theorem sl_to (s : Tx) (i : Nat) (h : i ≤ s.length) : ∀ wx, (Instr.slice 9 (.string (bs s)) none (some (.int .i64 (i : Int))) none).run Tryz.prog wx = .ok (.string (bs (s.take i))) wx := by
  intro wx
  have hs := bs_size s
  rw [run_slice_string_h wx 9 (bs s) Tryz.underlying9 .i64 _ (by omega) (by omega), Int.toNat_natCast, bs_cut]
  simp
theorem sl_mid (s : Tx) (j k : Nat) (h : j ≤ k) (hk : k ≤ s.length) : ∀ wx, (Instr.slice 9 (.string (bs s)) (some (.int .i64 (j : Int))) (some (.int .i64 (k : Int))) none).run Tryz.prog wx = .ok (.string (bs ((s.take k).drop j))) wx := by
  intro wx
  have hs := bs_size s
  rw [run_slice_string_if wx 9 (bs s) .i64 .i64 (j : Int) (k : Int) Tryz.underlying9, if_pos ⟨by omega, by omega⟩, if_pos ⟨by omega, by omega⟩]
  rw [Int.toNat_natCast, Int.toNat_natCast, bs_cut, List.drop_take]

/-- What Parse answered, in a cell of the caller's. -/
def PcAt (w : World) (u : Tx) (v8 v9 v10 : Value) (wz : World) : Prop :=
  ∃ b a2 d2, v8 = .pointer (some ⟨b, 0, none⟩) ∧ v9 = .int .i64 ((parse wrapI u).2.1 : Int) ∧ v10 = .int .i64 ((parse wrapI u).2.2 : Int) ∧ Below w.heap.size w wz ∧
    wz.cell? ⟨b, 1, none⟩ = some (.slice a2 (parse wrapI u).1.body.len d2) ∧ Nodes wz (· < wz.heap.size) false (.slice a2 (parse wrapI u).1.body.len d2) (parse wrapI u).1.body

theorem pc_call {w w1 : World} {m n : Nat} {a1 a2 : Option Addr} {d1 d2 : Nat} {xs : Ns} (hb1 : Below w.drew.heap.size w.drew w1) (hN : LR w1 TN m w1.heap.size (.slice a2 xs.len d2) xs) :
    Below w.heap.size w (w1.alloc (.cells #[.slice a1 n d1, .slice a2 xs.len d2] 25)) ∧
    (w1.alloc (.cells #[.slice a1 n d1, .slice a2 xs.len d2] 25)).cell? ⟨w1.heap.size, 1, none⟩ = some (.slice a2 xs.len d2) ∧
    Nodes (w1.alloc (.cells #[.slice a1 n d1, .slice a2 xs.len d2] 25)) (· < (w1.alloc (.cells #[.slice a1 n d1, .slice a2 xs.len d2] 25)).heap.size) false (.slice a2 xs.len d2) xs := by
  obtain ⟨A, R, Z⟩ := Put.new w1 #[.slice a1 n d1, .slice a2 xs.len d2] 25
  generalize w1.alloc (.cells #[.slice a1 n d1, .slice a2 xs.len d2] 25) = w2 at *
  have hb : Below w.heap.size w w1 := (Below.refl _ w).drew.trans hb1
  refine ⟨hb.trans (A.mono hb.size), cell_of_row w2 _ 1 _ _ _ R, ?_⟩
  have hn : Nodes w1 (fun b => b < w1.heap.size) false (.slice a2 xs.len d2) xs := hN.nodes fun b _ h => h
  exact (hn.frame fun b hb' _ => A.block b hb').mono fun b _ hb' => by omega

theorem pc_alloc {w w1 : World} {m n : Nat} {a1 a2 : Option Addr} {d1 d2 : Nat} {xs : Ns} {z1 z2 : Value} (hb1 : Below (w.drew.alloc (.cells #[.slice none 0 0, .slice none 0 0] 25)).heap.size (w.drew.alloc (.cells #[.slice none 0 0, .slice none 0 0] 25)) w1) (hlo : (w.drew.alloc (.cells #[.slice none 0 0, .slice none 0 0] 25)).heap.size ≤ m) (hN : LR w1 TN m w1.heap.size (.slice a2 xs.len d2) xs)
    (hrow : w1.heap[w.heap.size]? = some (.cells #[z1, z2] 25 (0, 0))) :
    Below w.heap.size w ((w1.setCell ⟨w.heap.size, 0, none⟩ (.slice a1 n d1)).setCell ⟨w.heap.size, 1, none⟩ (.slice a2 xs.len d2)) ∧
    ((w1.setCell ⟨w.heap.size, 0, none⟩ (.slice a1 n d1)).setCell ⟨w.heap.size, 1, none⟩ (.slice a2 xs.len d2)).cell? ⟨w.heap.size, 1, none⟩ = some (.slice a2 xs.len d2) ∧
    Nodes ((w1.setCell ⟨w.heap.size, 0, none⟩ (.slice a1 n d1)).setCell ⟨w.heap.size, 1, none⟩ (.slice a2 xs.len d2)) (· < ((w1.setCell ⟨w.heap.size, 0, none⟩ (.slice a1 n d1)).setCell ⟨w.heap.size, 1, none⟩ (.slice a2 xs.len d2)).heap.size) false (.slice a2 xs.len d2) xs := by
  obtain ⟨A, R, Z⟩ := Put.new w.drew #[.slice none 0 0, .slice none 0 0] 25
  generalize w.drew.alloc (.cells #[.slice none 0 0, .slice none 0 0] 25) = w2 at *
  have p1 := Put.one hrow 0 (.slice a1 n d1)
  have p2 := p1.trans (Put.one p1.row 1 (.slice a2 xs.len d2))
  generalize (w1.setCell ⟨w.heap.size, 0, none⟩ (.slice a1 n d1)).setCell ⟨w.heap.size, 1, none⟩ (.slice a2 xs.len d2) = w3 at *
  have e0 : w.drew.heap.size = w.heap.size := rfl
  have hb0 : Below w.heap.size w w2 := (Below.refl _ w).drew.trans A
  have hb : Below w.heap.size w w1 := hb0.trans (hb1.mono hb0.size)
  have hsz := p2.size
  refine ⟨p2.below hb (Nat.le_refl _), (p2.cells 1).1, ?_⟩
  have hn : Nodes w1 (fun b => m ≤ b ∧ b < w1.heap.size) false (.slice a2 xs.len d2) xs := hN.nodes fun b h h' => ⟨h, h'⟩
  exact (hn.frame fun b hb' _ => p2.oth b (by omega)).mono fun b _ hb' => by omega



set_option maxRecDepth 100000 in
set_option maxHeartbeats 8000000 in
theorem least_any (w : World) (kx : Nat) (t : Tx) (v1 v2 v3 : Value) (x1 x2 x3 : Ns) (hk : kx < 256) (ht : t.length ≤ 140737488351232)
    (h1 : Nodes w (fun b => b < w.heap.size) false v1 x1) (h2 : Nodes w (fun b => b < w.heap.size) false v2 x2) (h3 : Nodes w (fun b => b < w.heap.size) false v3 x3) (hsz : 1 + t.length + x1.sz + x2.sz + x3.sz ≤ 1048576) :
    Calls Tryz.prog 5 #[.agg #[.int .u8 (kx : Int), .string (tx t), v1, v2, v3]] w fun e w' => e = .returned (.bool true) ∧ Below w.heap.size w w' := by
  obtain ⟨a1, c1, rfl⟩ := h1.form
  obtain ⟨a2, c2, rfl⟩ := h2.form
  obtain ⟨a3, c3, rfl⟩ := h3.form
  obtain ⟨hA, hn, hz⟩ := Put.new w #[.int .u8 (kx : Int), .string (tx t), .slice a1 x1.len c1, .slice a2 x2.len c2, .slice a3 x3.len c3] 39
  obtain ⟨bx, hbx⟩ : ∃ bx, bx = w.heap.size := ⟨_, rfl⟩
  obtain ⟨w0, hw0⟩ : ∃ w0, w0 = w.alloc (.cells #[.int .u8 (kx : Int), .string (tx t), .slice a1 x1.len c1, .slice a2 x2.len c2, .slice a3 x3.len c3] 39) := ⟨_, rfl⟩
  rw [← hw0] at hA hn hz
  rw [← hbx] at hn
  have BX := Lib.hid (show BxIs false w0 w.heap.size bx ⟨kx, t, x1, x2, x3⟩ a1 c1 a2 c2 a3 c3 from ⟨hn, hk, ht, h1.below hA, h2.below hA, h3.below hA, hA.size⟩)
  have Y0 := Lib.hid hA
  have HS := Lib.hid hsz
  have HT := Lib.hid ht
  clear hA hn hz h1 h2 h3 hsz hk ht
  go_enter Tryz.func5, Tryz.ntmps5
  go_upto_region 1 with fail
  rw [← hbx, ← hw0]
  clear hbx hw0
  go_wp2_with fail
  refine alive10_t fun w1 hb => ?_
  have K1 := Lib.hid hb
  have B1 := Lib.hid (BX.out.later hb)
  clear hb
  obtain ⟨q0, q1, q2, q3, q4, _, _, _, _, _⟩ := row5 B1.out.row
  simp only at q0 q1 q2 q3 q4
  go_wp2_with fail
  refine (size_oneV (x := ⟨kx, t, x1, x2, x3⟩) (size_saidV false _) (size_saidV false _) (size_saidV false _) HS.out B1.out.hB B1.out.l B1.out.body B1.out.els HT.out).mono ?_
  rintro e w2 ⟨n, rfl, hn, hb⟩
  have K2 := Lib.hid (K1.out.trans (hb.mono K1.out.size))
  have B2 := Lib.hid (B1.out.later hb)
  clear hb q0 q1 q2 q3 q4 B1
  by_cases hm : n ≤ 300
  · obtain ⟨q0, q1, q2, q3, q4, _, _, _, _, _⟩ := row5 B2.out.row
    simp only at q0 q1 q2 q3 q4
    clear hn
    go_wp2_with fail
    refine (showExpr_t (x := ⟨kx, t, x1, x2, x3⟩) B2.out.hB B2.out.nv HS.out).mono ?_
    rintro e w3 ⟨rfl, hb⟩
    have K3 := Lib.hid (K2.out.trans (hb.mono K2.out.size))
    have B3 := Lib.hid (B2.out.later hb)
    clear hb q0 q1 q2 q3 q4 B2 hm
    rcases showE_two ⟨kx, t, x1, x2, x3⟩ with ⟨hsh, hck⟩ | ⟨hsh, hck⟩
    · rw [hsh]
      clear hsh hck
      rw [show bs ([] : Tx) = ⟨#[]⟩ from rfl]
      go_wp2_with fail
      go_ret
      exact ⟨rfl, Y0.out.trans (K3.out.mono Y0.out.size)⟩
    · rw [hsh]
      have HOK := Lib.hid (okx_of_check hck)
      have HBL := Lib.hid (bal_x _ (okx_of_check hck))
      obtain ⟨s, hs⟩ : ∃ s, s = (⟨kx, t, x1, x2, x3⟩ : Nd).sh := ⟨_, rfl⟩
      rw [← hs] at HBL ⊢
      have HSH := Lib.hid hs
      have hss := bs_size s
      clear hsh hck hs
      by_cases hl : s.length ≤ 400
      · have hl' : (s.length : Int) ≤ 400 := by omega
        go_wp2_with fail
        go_loopg [5] s.length (fun gk v5 wr => LeAt w3 s.length gk v5 wr)
        case atStart => exact ⟨0, Nat.zero_le _, rfl, rfl, Below.refl _ _⟩
        case round =>
          obtain ⟨i, hi, rfl, rfl, hb⟩ := hrel
          have KL := Lib.hid hb
          have i0 : (0 : Int) ≤ (i : Int) := by omega
          clear hb
          by_cases hlt : i < s.length
          · have i1 : (i : Int) < (s.length : Int) := by omega
            have iw : IntKind.i64.wrap ((i : Int) + 1) = (i : Int) + 1 := IntWalk.i64_in _ (by omega)
            have hixi := ix_s s .i64 i rfl hlt
            have hgi : s[i]? = some s[i] := List.getElem?_eq_getElem hlt
            obtain ⟨d, hd⟩ : ∃ d, d = s[i] := ⟨_, rfl⟩
            rw [← hd] at hixi hgi
            clear hd
            have HI0 := Lib.hid hlt
            have HAF := Lib.hid (fun wy : World => after_any (w := wy) s i (Nat.le_of_lt hlt) (by omega))
            have HSS := Lib.hid (And.intro hl trivial)
            clear hl hl'
            go_upto_region 9 with fail
            go_cut [67] from 41 to 142 (fun v67 wx => SkAt w3 s i v67 wx)
            case first =>
              by_cases h40 : d = 40
              · have d40 : (d.toNat : Int) = 40 := by rw [h40]; rfl
                have HGI := Lib.hid (show s[i]? = some 40 by rw [hgi, h40])
                clear h40 hgi hi
                by_cases hz : i = 0
                · have i00 : (i : Int) ≤ 0 := by omega
                  clear hz
                  go_wp2_with fail
                  go_meet
                  case rel => exact ⟨_, rfl, fun _ => HGI.out, KL.out⟩
                · have i00 : (0 : Int) < (i : Int) := by omega
                  obtain ⟨j, hj⟩ : ∃ j, i = j + 1 := ⟨i - 1, by omega⟩
                  have ij : (i : Int) - 1 = (j : Int) := by omega
                  have jw : IntKind.i64.wrap (j : Int) = (j : Int) := IntWalk.i64_in _ (by omega)
                  have hjx := ix_s s .i64 j rfl (show j < s.length by omega)
                  have j0 : (0 : Int) ≤ (j : Int) := by omega
                  have j1 : (j : Int) < (s.length : Int) := by omega
                  obtain ⟨c, hc⟩ : ∃ c, c = s[j]'(by omega) := ⟨_, rfl⟩
                  rw [← hc] at hjx
                  clear hc hj hlt hz
                  go_wp2_with fail
                  refine (word_any c).mono ?_
                  rintro en wy ⟨β, rfl, hb⟩
                  have KW := Lib.hid (KL.out.trans (hb.mono KL.out.size))
                  clear hb
                  cases β with
                  | false =>
                    go_wp2_with fail
                    go_meet
                    case rel => exact ⟨_, rfl, fun _ => HGI.out, KW.out⟩
                  | true =>
                    go_wp2_with fail
                    refine (HAF.out _).mono ?_
                    rintro en wx ⟨γ, rfl, hb⟩
                    have KX := Lib.hid (KW.out.trans (hb.mono KW.out.size))
                    clear hb
                    cases γ with
                    | true =>
                      go_wp2_with fail
                      go_meet
                      case rel => exact ⟨_, rfl, fun _ => HGI.out, KX.out⟩
                    | false =>
                      go_wp2_with fail
                      go_meet
                      case rel => exact ⟨_, rfl, fun h => (by cases h), KX.out⟩
              · have d40 : ¬ (d.toNat : Int) = 40 := fun h => h40 (UInt8.toNat_inj.1 (show d.toNat = 40 by omega))
                clear h40 hgi hi
                go_wp2_with fail
                go_meet
                case rel => exact ⟨_, rfl, fun h => (by cases h), KL.out⟩
            case rest =>
              obtain ⟨β, rfl, h40, hbx⟩ := hcut
              obtain ⟨wx, hwx⟩ : ∃ wx, wx = wc := ⟨_, rfl⟩
              rw [← hwx]
              have KX := Lib.hid (show Below w3.heap.size w3 wx from hwx ▸ hbx)
              clear hwx hbx hgi hixi hlt hi
              cases β with
              | true =>
                clear h40
                go_wp2_with fail
                go_roundg (s.length - (i + 1))
                case measure => have := HI0.out; omega
                case rel => exact ⟨i + 1, HI0.out, rfl, by go_num, KX.out⟩
              | false =>
                have HI := Lib.hid (And.intro HI0.out (And.intro (h40 rfl) trivial))
                have hl : s.length ≤ 400 := HSS.out.1
                have hl' : (s.length : Int) ≤ 400 := by omega
                clear h40
                -- from the count on: w5 is the world, KX how it came to be
                go_wp2_with fail
                go_loopg [6, 7] (s.length - i) (fun gk v6 v7 wr => DpAt wx s i gk v6 v7 wr)
                case atStart => exact ⟨i, Nat.le_refl _, Nat.le_of_lt HI.out.1, rfl, by rw [deepAt_start], rfl, .inl rfl, Below.refl _ _⟩
                case round =>
                  obtain ⟨k, hk1, hk2, rfl, rfl, rfl, hdp, hb⟩ := hrel
                  have KB := Lib.hid hb
                  have KY := Lib.hid (KX.out.trans (hb.mono KX.out.size))
                  have k0 : (0 : Int) ≤ (k : Int) := by omega
                  clear hb
                  by_cases hlt : k < s.length
                  · have k1 : (k : Int) < (s.length : Int) := by omega
                    have kw : IntKind.i64.wrap ((k : Int) + 1) = (k : Int) + 1 := IntWalk.i64_in _ (by omega)
                    have hix := ix_s s .i64 k rfl hlt
                    have hst := deepAt_step s hk1 hlt
                    have hdl := deepAt_le s i k
                    have hdi : k = i → deepAt s i k = 0 := fun e => by rw [e, deepAt_start]
                    have hki : k = i → s[k] = 40 := fun e => by subst e; have := HI.out.2.1; rw [List.getElem?_eq_getElem hlt] at this; exact Option.some.inj this
                    have hgk : s[k]? = some s[k] := List.getElem?_eq_getElem hlt
                    obtain ⟨e, he⟩ : ∃ e, e = s[k] := ⟨_, rfl⟩
                    rw [← he] at hst hix hki hgk
                    obtain ⟨D, hD⟩ : ∃ D, D = deepAt s i k := ⟨_, rfl⟩
                    rw [← hD] at hst hdl hdp hdi ⊢
                    obtain ⟨D', hD'⟩ : ∃ D', D' = deepAt s i (k + 1) := ⟨_, rfl⟩
                    rw [← hD'] at hst
                    have HD := Lib.hid hD'
                    clear hD hD' he
                    by_cases h40 : e = 40
                    · have e40 : (e.toNat : Int) = 40 := by rw [h40]; rfl
                      rw [if_pos h40] at hst
                      have dw : IntKind.i64.wrap (D + 1) = D + 1 := IntWalk.i64_in _ (by omega)
                      have hpos : 1 ≤ D + 1 := by rcases hdp with h | h; · have := hdi h; omega
                                                  · omega
                      have d1 : ¬ D + 1 = 0 := by omega
                      have HN := Lib.hid (And.intro hlt (And.intro (show deepAt s i (k + 1) = D + 1 by rw [← HD.out]; exact hst) (And.intro hpos hk1)))
                      clear hst hdl hdp hdi hki hgk h40 hpos hlt hk1 hk2
                      go_wp2_with fail
                      go_roundg (s.length - (k + 1))
                      case measure => have := HN.out.1; omega
                      case rel => exact ⟨k + 1, Nat.le_succ_of_le HN.out.2.2.2, HN.out.1, rfl, by rw [HN.out.2.1], by go_num, .inr (by rw [HN.out.2.1]; exact HN.out.2.2.1), KB.out⟩
                    · have hne : ¬ k = i := fun h => h40 (hki h)
                      have hD1 : 1 ≤ D := by rcases hdp with h | h; · exact absurd h hne
                                             · exact h
                      have e40 : ¬ (e.toNat : Int) = 40 := fun h => h40 (UInt8.toNat_inj.1 (show e.toNat = 40 by omega))
                      rw [if_neg h40] at hst
                      by_cases h41 : e = 41
                      · have e41 : (e.toNat : Int) = 41 := by rw [h41]; rfl
                        rw [if_pos h41] at hst
                        have dw : IntKind.i64.wrap (D - 1) = D - 1 := IntWalk.i64_in _ (by omega)
                        by_cases hz : D = 1
                        · subst hz
                          have HN := Lib.hid (And.intro (show i < k by omega) (And.intro hlt (show s[k]? = some 41 by rw [hgk, h41])))
                          have ki : (i : Int) + 1 ≤ (k : Int) := by omega
                          clear hst hdl hdp hdi hki hgk h40 h41 hne hD1 hk1 e40
                          have e40 : ¬ (e.toNat : Int) = 40 := by omega
                          -- where it shuts: without the pair
                          have hil : i ≤ s.length := Nat.le_of_lt HI.out.1
                          have hkl : k < s.length := hlt
                          have f1 := sl_to s i hil
                          have f4 : ∀ wx, (Instr.slice 9 (.string (bs s)) (some (.int .i64 ((i : Int) + 1))) (some (.int .i64 (k : Int))) none).run Tryz.prog wx = .ok (.string (bs ((s.take k).drop (i + 1)))) wx := sl_mid s (i + 1) k (by omega) (by omega)
                          have f7 : ∀ wx, (Instr.slice 9 (.string (bs s)) (some (.int .i64 ((k : Int) + 1))) none none).run Tryz.prog wx = .ok (.string (bs (s.drop (k + 1)))) wx := sl_s s .i64 (k + 1) rfl (by omega)
                          have hm1 : (s.take i).length ≤ 400 := by rw [List.length_take]; omega
                          have hm2 : ((s.take k).drop (i + 1)).length ≤ 400 := by rw [List.length_drop, List.length_take]; omega
                          have hm3 : (s.drop (k + 1)).length ≤ 400 := by rw [List.length_drop]; omega
                          have hwo : without s i k = s.take i ++ [32] ++ (s.take k).drop (i + 1) ++ [32] ++ s.drop (k + 1) ++ [59] := rfl
                          obtain ⟨m1, hm1'⟩ : ∃ m, m = s.take i := ⟨_, rfl⟩
                          obtain ⟨m2, hm2'⟩ : ∃ m, m = (s.take k).drop (i + 1) := ⟨_, rfl⟩
                          obtain ⟨m3, hm3'⟩ : ∃ m, m = s.drop (k + 1) := ⟨_, rfl⟩
                          rw [← hm1'] at f1 hm1 hwo
                          rw [← hm2'] at f4 hm2 hwo
                          rw [← hm3'] at f7 hm3 hwo
                          have f2 : ∀ wx, (Op.stringOp .add (bs m1) ⟨#[32]⟩).run Tryz.prog wx = .ok (.string (bs (m1 ++ [32]))) wx := add_any m1 [32] (by simp only [List.length_cons, List.length_nil]; omega)
                          obtain ⟨t2, ht2⟩ : ∃ m : Tx, m = m1 ++ [32] := ⟨_, rfl⟩
                          have hl2 := congrArg List.length ht2
                          rw [List.length_append] at hl2
                          rw [← ht2] at f2 hwo
                          have f5 : ∀ wx, (Op.stringOp .add (bs t2) (bs m2)).run Tryz.prog wx = .ok (.string (bs (t2 ++ m2))) wx := add_any t2 m2 (by simp only [List.length_cons, List.length_nil] at hl2; omega)
                          obtain ⟨t3, ht3⟩ : ∃ m : Tx, m = t2 ++ m2 := ⟨_, rfl⟩
                          have hl3 := congrArg List.length ht3
                          rw [List.length_append] at hl3
                          rw [← ht3] at f5 hwo
                          have f6 : ∀ wx, (Op.stringOp .add (bs t3) ⟨#[32]⟩).run Tryz.prog wx = .ok (.string (bs (t3 ++ [32]))) wx := add_any t3 [32] (by simp only [List.length_cons, List.length_nil] at *; omega)
                          obtain ⟨t4, ht4⟩ : ∃ m : Tx, m = t3 ++ [32] := ⟨_, rfl⟩
                          have hl4 := congrArg List.length ht4
                          rw [List.length_append] at hl4
                          rw [← ht4] at f6 hwo
                          have f8 : ∀ wx, (Op.stringOp .add (bs t4) (bs m3)).run Tryz.prog wx = .ok (.string (bs (t4 ++ m3))) wx := add_any t4 m3 (by simp only [List.length_cons, List.length_nil] at *; omega)
                          obtain ⟨t5, ht5⟩ : ∃ m : Tx, m = t4 ++ m3 := ⟨_, rfl⟩
                          have hl5 := congrArg List.length ht5
                          rw [List.length_append] at hl5
                          rw [← ht5] at f8 hwo
                          have f9 : ∀ wx, (Op.stringOp .add (bs t5) ⟨#[59]⟩).run Tryz.prog wx = .ok (.string (bs (t5 ++ [59]))) wx := add_any t5 [59] (by simp only [List.length_cons, List.length_nil] at *; omega)
                          rw [← hwo] at f9
                          obtain ⟨u, hu⟩ : ∃ u, u = without s i k := ⟨_, rfl⟩
                          rw [← hu] at f9
                          have HU := Lib.hid hu
                          clear hm1' hm2' hm3' ht2 ht3 ht4 ht5 hl2 hl3 hl4 hl5 hm1 hm2 hm3 hwo hu hil hkl hlt
                          have HLEN := Lib.hid hl
                          have HK := Lib.hid (And.intro k1 ki)
                          go_upto_region 21 with fail
                          clear hl hl' hss k1 ki k0 e40 e41 hix dw
                          go_cut [8, 9, 10] from 41 to 142 (fun v8 v9 v10 wz => PcAt wr u v8 v9 v10 wz)
                          case first =>
                            go_region_law (first
                              | (go_simp; go_at_call 14; refine (parse_t (w := wr.drew) u).mono ?_; rintro en w1 ⟨hb1, pv, rfl, hP⟩; obtain ⟨m, y1, y2, rfl, hlo, hhi, hF, hN⟩ := hP; obtain ⟨a1, d1, rfl⟩ := hF.form; obtain ⟨a2, d2, rfl⟩ := hN.form; have X1 := Lib.hid (And.intro hb1 (And.intro hlo (And.intro hhi hN))); clear hb1 hF hN hlo hhi)
                              | (go_simp; go_at_call 14; refine (parse_t (w := wr.drew.alloc (.cells #[.slice none 0 0, .slice none 0 0] 25)) u).mono ?_; rintro en w1 ⟨hb1, pv, rfl, hP⟩; obtain ⟨m, y1, y2, rfl, hlo, hhi, hF, hN⟩ := hP; obtain ⟨a1, d1, rfl⟩ := hF.form; obtain ⟨a2, d2, rfl⟩ := hN.form; have hrow := (hb1.block wr.heap.size (Put.new_lt wr _ _)).trans (heap_alloc_new wr.drew _); have c0 := cell_of_row w1 _ 0 _ _ _ hrow; have c1 := cell_of_row w1 _ 1 _ _ _ hrow; have g0 := frozen_of_row w1 _ 0 _ _ hrow; have g1 := frozen_of_row w1 _ 1 _ _ hrow; simp at c0 c1; have X1 := Lib.hid (And.intro hb1 (And.intro hlo (And.intro hhi (And.intro hN hrow)))); clear hb1 hF hN hlo hhi hrow))
                            all_goals
                              go_wp2_with fail
                              go_meet
                              case rel =>
                                first
                                | exact ⟨w1.heap.size, a2, d2, rfl, rfl, rfl, pc_call X1.out.1 X1.out.2.2.2⟩
                                | exact ⟨wr.heap.size, a2, d2, rfl, rfl, rfl, pc_alloc X1.out.1 X1.out.2.1 X1.out.2.2.2.1 X1.out.2.2.2.2⟩
                          case rest =>
                            obtain ⟨bz, a2, d2, rfl, rfl, rfl, hbw, pc1, pn⟩ := hcut
                            have KZ := Lib.hid (KY.out.trans (hbw.mono KY.out.size))
                            have B5 := Lib.hid (B3.out.later KZ.out)
                            have HLQ : ∀ (st y : Nd), (parse wrapI u).2.2 = 0 → (parse wrapI u).1.body.items = [st] → st.l.items = [y] → y ≠ ⟨kx, t, x1, x2, x3⟩ := fun st y he hb hy => by
                              rw [HU.out, HSH.out] at he hb
                              exact least_one wrapI _ HOK.out (by rw [← HSH.out]; have := HLEN.out; omega) HN.out.1 (by rw [← HSH.out]; exact HN.out.2.1) (by rw [← HSH.out]; exact HI.out.2.1) (by rw [← HSH.out]; exact HN.out.2.2) he hb hy
                            generalize parse wrapI u = res at HLQ pc1 pn ⊢
                            obtain ⟨⟨fs, bd⟩, pl, pe⟩ := res
                            dsimp only at HLQ pc1 pn ⊢
                            have HLQ' := Lib.hid HLQ
                            clear HLQ hbw
                            by_cases he : pe = 0
                            · subst he
                              by_cases h1 : bd.len = 1
                              · obtain ⟨st, rfl⟩ := one_of h1
                                obtain ⟨ao, cp, eo, hr, hat⟩ := pn.open_
                                cases eo
                                have hi0 : (Ns.of [st]).items = [st] := Ns.items_of _
                                obtain ⟨b1, o1, u1, u2, u3, rfl, hS1, hN1⟩ := hat 0 (by rw [hi0]; simp)
                                simp only [hi0, List.getElem_cons_zero, Nat.zero_mul, Nat.add_zero] at hN1
                                have s2 := hN1.d2
                                obtain ⟨al, cl, el, hrl, hal⟩ := hN1.l.open_
                                subst el
                                rw [h1] at pc1
                                clear hN1 hat hr pn h1 hS1
                                by_cases h2 : st.l.items.length = 1
                                · obtain ⟨y, hy⟩ := one_of (show st.l.len = 1 from h2)
                                  have hi1 : st.l.items = [y] := by rw [hy]; exact Ns.items_of _
                                  have HNE := Lib.hid (HLQ'.out st y rfl hi0 hi1)
                                  obtain ⟨b2, o2, y1, y2, y3, rfl, hS2, hN2⟩ := hal 0 (by rw [hi1]; simp)
                                  simp only [hi1, List.getElem_cons_zero, Nat.zero_mul, Nat.add_zero] at hN2
                                  obtain ⟨p1, r1, rfl⟩ := hN2.l.form
                                  obtain ⟨p2, r2, rfl⟩ := hN2.body.form
                                  obtain ⟨p3, r3, rfl⟩ := hN2.els.form
                                  have y0 := hN2.d0
                                  have y1 := hN2.d1
                                  have y2 := hN2.d2
                                  have y3 := hN2.d3
                                  have y4 := hN2.d4
                                  have HY := Lib.hid hN2
                                  have DW := Lib.hid (Below.refl wc.heap.size wc).drew
                                  rw [h2] at s2
                                  obtain ⟨q0, q1, q2, q3, q4, _, _, _, _, _⟩ := row5 B5.out.row
                                  simp only at q0 q1 q2 q3 q4
                                  clear hN2 hal hi1 hy h2 hi0 hS2 hrl
                                  go_wp2_with fail
                                  go_still_tail 26, (by kernel_rfl)
                                  go_wp2_with fail
                                  refine (same_one (x := y) (y := ⟨kx, t, x1, x2, x3⟩) (w := wc.drew) (B := wc.heap.size) (same_nodes _) (same_nodes _) (same_nodes _) (Nat.le_refl _) HY.out.kind B5.out.kind (HY.out.l.below DW.out) (HY.out.body.below DW.out) (HY.out.els.below DW.out) ((B5.out.l.mono fun b hb _ => hb).below DW.out) ((B5.out.body.mono fun b hb _ => hb).below DW.out) ((B5.out.els.mono fun b hb _ => hb).below DW.out)).mono ?_
                                  rintro en w8 ⟨rfl, hb⟩
                                  have hne : ndEq y ⟨kx, t, x1, x2, x3⟩ = false := by
                                    cases hq : ndEq y ⟨kx, t, x1, x2, x3⟩ with
                                    | false => rfl
                                    | true => exact absurd ((ndEq_iff _ _).1 hq) HNE.out
                                  rw [hne]
                                  have K8 := Lib.hid (KZ.out.trans ((show Below wc.heap.size wc w8 from DW.out.trans hb).mono KZ.out.size))
                                  clear hb hne y0 y1 y2 y3 y4 q0 q1 q2 q3 q4 s2 pc1
                                  go_wp2_with fail
                                  go_roundg (s.length - (i + 1))
                                  case measure => have := HI.out.1; omega
                                  case rel => exact ⟨i + 1, HI.out.1, rfl, by go_num, K8.out⟩
                                · have h2' : ((st.l.items.length : Int) == 1) = false := by rw [beq_eq_false_iff_ne]; omega
                                  clear h2 hi0
                                  go_wp2_with fail
                                  go_quiet (fail)
                                  go_wp2_with fail
                                  go_roundg (s.length - (i + 1))
                                  case measure => have := HI.out.1; omega
                                  case rel => exact ⟨i + 1, HI.out.1, rfl, by go_num, ⟨KZ.out.os, KZ.out.tape, KZ.out.output, KZ.out.size, KZ.out.block⟩⟩
                              · have h1' : ((bd.len : Int) == 1) = false := by rw [beq_eq_false_iff_ne]; omega
                                clear h1
                                go_wp2_with fail
                                go_quiet (fail)
                                go_wp2_with fail
                                go_roundg (s.length - (i + 1))
                                case measure => have := HI.out.1; omega
                                case rel => exact ⟨i + 1, HI.out.1, rfl, by go_num, ⟨KZ.out.os, KZ.out.tape, KZ.out.output, KZ.out.size, KZ.out.block⟩⟩
                            · have he' : ((pe : Int) == 0) = false := by rw [beq_eq_false_iff_ne]; omega
                              clear he
                              go_wp2_with fail
                              go_quiet (fail)
                              go_wp2_with fail
                              go_roundg (s.length - (i + 1))
                              case measure => have := HI.out.1; omega
                              case rel => exact ⟨i + 1, HI.out.1, rfl, by go_num, ⟨KZ.out.os, KZ.out.tape, KZ.out.output, KZ.out.size, KZ.out.block⟩⟩
                        · have d1 : ¬ D - 1 = 0 := by omega
                          have HN := Lib.hid (And.intro hlt (And.intro (show deepAt s i (k + 1) = D - 1 by rw [← HD.out]; omega) (And.intro (show 1 ≤ D - 1 by omega) hk1)))
                          clear hst hdl hdp hdi hki hgk h40 h41 hne hD1 hk1 hk2 hlt hz
                          go_wp2_with fail
                          go_roundg (s.length - (k + 1))
                          case measure => have := HN.out.1; omega
                          case rel => exact ⟨k + 1, Nat.le_succ_of_le HN.out.2.2.2, HN.out.1, rfl, by rw [HN.out.2.1], by go_num, .inr (by rw [HN.out.2.1]; exact HN.out.2.2.1), KB.out⟩
                      · have e41 : ¬ (e.toNat : Int) = 41 := fun h => h41 (UInt8.toNat_inj.1 (show e.toNat = 41 by omega))
                        rw [if_neg h41] at hst
                        have d1 : ¬ D = 0 := by omega
                        have HN := Lib.hid (And.intro hlt (And.intro (show deepAt s i (k + 1) = D by rw [← HD.out]; omega) (And.intro hD1 hk1)))
                        clear hst hdl hdp hdi hki hgk h40 h41 hne hD1 hk1 hk2 hlt
                        go_wp2_with fail
                        go_roundg (s.length - (k + 1))
                        case measure => have := HN.out.1; omega
                        case rel => exact ⟨k + 1, Nat.le_succ_of_le HN.out.2.2.2, HN.out.1, rfl, by rw [HN.out.2.1], by go_num, .inr (by rw [HN.out.2.1]; exact HN.out.2.2.1), KB.out⟩
                  · exact absurd (deepAt_end s HBL.out i) (by
                      have h1 : k = s.length := by omega
                      rcases hdp with h | h
                      · have := HI.out.1; omega
                      · rw [h1] at h; omega)
          · obtain rfl : i = s.length := by omega
            clear hlt hi
            go_wp2_with fail
            go_ret
            exact ⟨rfl, Y0.out.trans ((K3.out.trans (KL.out.mono K3.out.size)).mono Y0.out.size)⟩
      · have hl' : (400 : Int) < (s.length : Int) := by omega
        clear hl
        go_wp2_with fail
        go_ret
        exact ⟨rfl, Y0.out.trans (K3.out.mono Y0.out.size)⟩
  · have hm2 : (300 : Int) < n := by omega
    clear hm hn
    go_wp2_with fail
    refine alive10_t fun w5 hb => ?_
    have K5 := Lib.hid (Y0.out.trans ((K2.out.trans (hb.mono K2.out.size)).mono Y0.out.size))
    clear hb
    go_wp2_with fail
    go_ret
    exact ⟨rfl, K5.out⟩
end Go.Proofs.YtobpnjnfpgcpaaaGreatDoor
