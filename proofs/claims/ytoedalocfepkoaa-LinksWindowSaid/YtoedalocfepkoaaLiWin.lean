/- Links: the walk of LinksWindow. -/
import Derived.Test.YtoedalocfepkoaaLiAlive
import Derived.Test.YtoedalocfepkoaaSame
namespace Go.Li
/-- What waits behind i calls of Send with the same bytes. -/
def same (b : List UInt8) (n f : Nat) : St := ⟨List.replicate n b, f, 0, fun _ => none, false⟩

theorem datas_same (b : List UInt8) (f : Nat) : ∀ (n i j : Nat), j < n → (datas f i (List.replicate n b))[j]? = some (packet 68 ((f + (i + j)) % M) b) := by
  intro n
  induction n with
  | zero => intro i j h; exact absurd h (Nat.not_lt_zero _)
  | succ n ih =>
    intro i j h
    rw [List.replicate_succ, datas]
    cases j with
    | zero => rfl
    | succ j =>
      rw [List.getElem?_cons_succ, ih (i + 1) j (by omega)]
      congr 4
      omega

theorem came_known (s : St) (n : Nat) (hn : n < M) : came s (packet 65 n []) = ([], 0, known s n) := by
  have h1 : (packet 65 n []).length = 5 := by rw [length_packet]; rfl
  have h2 : (packet 65 n [])[0]?.getD 0 = 65 := rfl
  unfold came
  rw [if_neg (by omega), if_neg (by rw [h2]; decide), if_pos ⟨h2, h1⟩, num_packet 65 n hn]

theorem known_in (b : List UInt8) (m n : Nat) (hn : n ≤ m) (hm : m ≤ 16) : known (same b m 0) n = same b (m - n) n := by
  unfold known
  have hf : far n (same b m 0).first = n := by show far n 0 = n; unfold far M; omega
  rw [hf, if_pos (by show n ≤ (List.replicate m b).length; rw [List.length_replicate]; exact hn)]
  show (⟨(List.replicate m b).drop n, n, 0, _, false⟩ : St) = _
  rw [List.drop_replicate]; rfl

theorem known_out (b : List UInt8) (m n : Nat) (hn : m < n) (hM : n < M) : known (same b m 0) n = same b m 0 := by
  unfold known
  have hf : far n (same b m 0).first = n := by show far n 0 = n; unfold far M at *; omega
  rw [hf, if_neg (by show ¬ n ≤ (List.replicate m b).length; rw [List.length_replicate]; omega)]

theorem packets_same (b : List UInt8) (n f : Nat) : packets (same b n f) = datas f 0 (List.replicate n b) := by
  unfold packets; simp [same]
theorem datas_len (b : List UInt8) (f n i : Nat) : (datas f i (List.replicate n b)).length = n := by
  induction n generalizing i with
  | zero => rfl
  | succ n ih => rw [List.replicate_succ, datas, List.length_cons, ih]
end Go.Li
namespace Go.Proofs.Ytoedalocfepkoaa
open Go.RowKit Go.My

theorem sent_same (b : List UInt8) (n f : Nat) : sent (Li.same b n f) b = Li.same b (n + 1) f := by
  unfold sent Li.same
  simp [List.replicate_succ']

def WinAt (w : World) (ea : Nat) (v : Value) (b : List UInt8) (k : Nat) (gk : Nat) (vi : Value) (wr : World) : Prop :=
  ∃ i gr, i ≤ k ∧ gk = k - i ∧ vi = .int .i64 (i : Int) ∧ EndIs wr gr 10 ea (Li.same b (min i 16) 0) 0 ∧ Since w wr gr ∧ Bytes wr gr 0 v b

theorem win_next {w wr w2 : World} {gr g2 : Tags} {ea : Nat} {v : Value} {b : List UInt8} {k i : Nat} (hi : i < k) (h16 : i < 16) (hT : Turn wr gr w2 g2 [10, 11, 12]) (hE : EndIs w2 g2 10 ea (sent (Li.same b (min i 16) 0) b) 0) (hS : Since w wr gr) (hv : Bytes wr gr 0 v b) :
    WinAt w ea v b k (k - (i + 1)) (.int .i64 ((i : Int) + 1)) w2 := by
  refine ⟨i + 1, g2, hi, rfl, by go_num, ?_, hS.turn hT (by decide), hv.turn hT (by decide)⟩
  rw [sent_same] at hE
  rw [show min (i + 1) 16 = min i 16 + 1 by omega]
  exact hE

/-- The last loop's rounds. -/
def LookAt (w : World) (p : Value) (ps : List (List UInt8)) (v : Value) (b : List UInt8) (n : Nat) (gk : Nat) (vi : Value) (wr : World) : Prop :=
  ∃ i gr, i ≤ n ∧ gk = n - i ∧ vi = .int .i64 (i : Int) ∧ Lists wr gr 40 41 p ps ∧ Since w wr gr ∧ Bytes wr gr 0 v b

theorem since_drewN {w wr : World} {gr : Tags} (h : Since w wr gr) (n : Nat) : Since w (wr.drewN n) gr := h.turn (Turn.drewN wr gr n) (by simp : (0 : Nat) ∉ ([] : List Nat))

theorem ack_lit {w : World} {g : Tags} (n : Nat) (hn : n < Li.M) :
    Bytes (w.alloc (.cells #[Value.int .u8 65, .int .u8 ((n : Int) / 16777216), .int .u8 ((n : Int) / 65536 % 256), .int .u8 ((n : Int) / 256 % 256), .int .u8 ((n : Int) % 256)] 5)) (g.ext w.heap.size 30) 30 (.slice (some ⟨w.heap.size, 0, none⟩) 5 5) (Li.packet 65 n []) :=
  lit_t g 30 (Li.packet 65 n []) rfl (Li.length_packet 65 n []).symm (by rw [Li.length_packet]; exact Nat.le_of_ble_eq_true rfl) (by
    have e : Li.packet 65 n [] = 65 :: Li.be4 n := by simp [Li.packet]
    rw [e]; exact packet_cells 65 n hn) (0, 0)


set_option maxRecDepth 100000 in
set_option maxHeartbeats 8000000 in
theorem window_in (w : World) (many n : Nat) (hmany : many < 256) (hn : n < Li.M) (v : Value) (b : List UInt8) (hv : BytesIn w (fun b => b < w.heap.size) v b) (hl : b.length ≤ 1000) :
    Calls Try.prog 5 #[.int .u8 (many : Int), .int .u32 (n : Int), v] w fun e w' => e = .returned (.bool true) ∧ Below w.heap.size w w' := by
  obtain ⟨ao, cap, e0, hc1, hm, _, hz⟩ := hv.open_
  subst e0
  have h1 : (b.length : Int) ≤ 1000 := by omega
  have C0 := Lib.hid (And.intro (Since.start w) (show Bytes w (fun _ => 0) 0 (.slice ao b.length cap) b from BytesIn.mono hv (fun _ _ _ => rfl)))
  have m0 : (0 : Int) ≤ (many : Int) := by omega
  have m1 : (many : Int) ≤ 255 := by omega
  have n0 : (0 : Int) ≤ (n : Int) := by omega
  have n1 : (n : Int) ≤ 4294967295 := by unfold Li.M at hn; omega
  obtain ⟨k, hk⟩ : ∃ k : Nat, k = many % 30 := ⟨_, rfl⟩
  have hk1 : (many : Int) % 30 = (k : Int) := by omega
  have hk2 : k ≤ 29 := by omega
  have HMANY := Lib.hid hk
  clear hv hz hm hc1 hk
  go_enter Try.func5, Try.ntmps5
  go_wp2_with fail
  refine alive_t _ (fun _ => 0) 9 fun w1 g1 T1 => ?_
  have C1 := Lib.hid (And.intro (C0.out.1.turn T1 (by decide)) (C0.out.2.turn T1 (by decide)))
  clear T1 C0
  go_wp2_with fail
  refine new_t w1 g1 10 fun ea w2 g2 T2 E2 => ?_
  have C2 := Lib.hid (And.intro (C1.out.1.turn T2 (by decide)) (And.intro (C1.out.2.turn T2 (by decide)) E2))
  clear T2 E2 C1
  go_wp2_with fail
  clear hk1
  go_loopg [9] k (fun gk vi wr => WinAt w ea (.slice ao b.length cap) b k gk vi wr)
  case atStart => exact ⟨0, _, Nat.zero_le _, rfl, rfl, C2.out.2.2, C2.out.1, C2.out.2.1⟩
  case round =>
    obtain ⟨i, gr, hi, rfl, rfl, hE, hS, hb⟩ := hrel
    have HX := Lib.hid (And.intro hE (And.intro hS hb))
    clear hE hS hb C2
    have i0 : (0 : Int) ≤ (i : Int) := by omega
    by_cases hlt : i < k
    · have i1 : (i : Int) < (k : Int) := by omega
      by_cases h16 : i < 16
      · have i2 : (i : Int) < 16 := by omega
        have hw16 := Lib.hid (show (Li.same b (min i 16) 0).waits.length < 16 by show (List.replicate _ b).length < 16; rw [List.length_replicate]; omega)
        have H16 := Lib.hid h16
        clear h16
        go_wp2_with fail
        refine send_ok HX.out.1 HX.out.2.2 (by omega) hw16.out (by decide) fun w3 g3 T3 E3 => ?_
        have X3 := Lib.hid (win_next hlt H16.out T3 E3 HX.out.2.1 HX.out.2.2)
        clear T3 E3
        go_wp2_with fail
        go_roundg (k - (i + 1))
        case measure => omega
        case rel => exact X3.out
      · have i2 : (16 : Int) ≤ (i : Int) := by omega
        have hw16 := Lib.hid (show (Li.same b (min i 16) 0).waits.length = 16 by show (List.replicate _ b).length = 16; rw [List.length_replicate]; omega)
        have X3 := Lib.hid (show WinAt w ea (.slice ao b.length cap) b k (k - (i + 1)) (.int .i64 ((i : Int) + 1)) wr from ⟨i + 1, gr, hlt, rfl, by go_num, by rw [show min (i + 1) 16 = min i 16 by omega]; exact HX.out.1, HX.out.2.1, HX.out.2.2⟩)
        clear h16
        go_wp2_with fail
        refine send_full HX.out.1 HX.out.2.2 (by omega) hw16.out ?_
        go_wp2_with fail
        go_roundg (k - (i + 1))
        case measure => omega
        case rel => exact X3.out
    · obtain rfl : i = k := by omega
      obtain ⟨m, hmm⟩ : ∃ m : Nat, m = min i 16 := ⟨_, rfl⟩
      rw [← hmm] at HX
      have hm16 : m ≤ 16 := by omega
      have hwl := Lib.hid (show (Li.same b m 0).waits.length = m from List.length_replicate)
      have hmin : min (i : Int) 16 = (m : Int) := by omega
      have hm17 : (m : Int) ≤ 16 := by omega
      clear hmm hlt hi
      go_wp2_with fail
      refine waits_t HX.out.1 ?_
      rw [hwl.out]
      go_wp2_with fail
      refine packets_k 40 41 HX.out.1 (by decide) (by decide) (by decide) (by decide) (by decide) (by decide) (Li.packets_same b m 0) fun ap cp w3 g3 T3 L3 E3 => ?_
      rw [Li.datas_len]
      have C3 := Lib.hid (And.intro (HX.out.2.1.turn T3 (by decide)) (And.intro (HX.out.2.2.turn T3 (by decide)) (show EndIs w3 g3 10 ea (Li.same b m 0) 0 from E3)))
      clear T3 L3 E3 HX
      go_wp2_with fail
      have C4a := Lib.hid (And.intro (C3.out.2.2.turn (Turn.alloc w3 g3 30 (.cells #[Value.int .u8 65, .int .u8 ((n : Int) / 16777216), .int .u8 ((n : Int) / 65536 % 256), .int .u8 ((n : Int) / 256 % 256), .int .u8 ((n : Int) % 256)] 5)) (by decide)) (ack_lit (w := w3) (g := g3) n hn))
      have C3' := Lib.hid (And.intro (C3.out.1.turn (Turn.alloc w3 g3 30 (.cells #[Value.int .u8 65, .int .u8 ((n : Int) / 16777216), .int .u8 ((n : Int) / 65536 % 256), .int .u8 ((n : Int) / 256 % 256), .int .u8 ((n : Int) % 256)] 5)) (by decide)) (C3.out.2.1.turn (Turn.alloc w3 g3 30 (.cells #[Value.int .u8 65, .int .u8 ((n : Int) / 16777216), .int .u8 ((n : Int) / 65536 % 256), .int .u8 ((n : Int) / 256 % 256), .int .u8 ((n : Int) % 256)] 5)) (by decide)))
      clear C3
      by_cases hnm : n ≤ m
      · have hnm1 : (n : Int) ≤ (m : Int) := by omega
        obtain ⟨f, hf⟩ : ∃ f, f = n := ⟨_, rfl⟩
        obtain ⟨z, hz⟩ : ∃ z, z = m - n := ⟨_, rfl⟩
        have HK := Lib.hid (show Li.came (Li.same b m 0) (Li.packet 65 n []) = ([], 0, Li.same b z f) by rw [Li.came_known _ n hn, Li.known_in b m n hnm hm16, ← hz, ← hf])
        have hsum : (m : Int) - (n : Int) = (z : Int) := by omega
        have hfz : (m : Int) - (z : Int) = (f : Int) := by omega
        have hf0 : f ≤ 16 := by omega
        have hz0 : z ≤ 16 := by omega
        clear hf hz hnm
        have hfew : f + z ≤ 32 := by omega
        refine came_k 50 C4a.out.1 C4a.out.2 (by decide) (by decide) (by decide) HK.out rfl fun al cl w5 g5 T5 L5 E5 => ?_
        have C5 := Lib.hid (And.intro (C3'.out.1.turn T5 (by decide)) (And.intro (C3'.out.2.turn T5 (by decide)) E5))
        clear T5 L5 E5 C3' C4a
        go_wp2_with fail
        refine packets_k 40 41 C5.out.2.2 (by decide) (by decide) (by decide) (by decide) (by decide) (by decide) (Li.packets_same b z f) fun ap cp w6 g6 T6 L6 E6 => ?_
        rw [Li.datas_len]
        have hwl2 := Lib.hid (show (Li.same b z f).waits.length = z from List.length_replicate)
        have C6 := Lib.hid (And.intro (C5.out.1.turn T6 (by decide)) (And.intro (C5.out.2.1.turn T6 (by decide)) (by rw [Li.datas_len] at L6; exact L6)))
        have HE6 := Lib.hid (show EndIs w6 g6 10 ea (Li.same b z f) _ from E6)
        clear T6 L6 E6 C5
        go_wp2_with fail
        refine waits_t HE6.out ?_
        rw [hwl2.out]
        go_wp2_with fail
        have hz1 : (z : Int) ≤ 16 := by omega
        have hf1 : (f : Int) ≤ 16 := by omega
        go_loopg [16] z (fun gk vi wr => LookAt w (.slice ap z cp) (Li.datas f 0 (List.replicate z b)) (.slice ao b.length cap) b z gk vi wr)
        case atStart => exact ⟨0, _, Nat.zero_le _, rfl, rfl, C6.out.2.2, C6.out.1, C6.out.2.1⟩
        case round =>
          obtain ⟨i, gr, hi, rfl, rfl, hL, hS, hb⟩ := hrel
          have HX := Lib.hid (And.intro hL (And.intro hS hb))
          clear hL hS hb C6
          have i0 : (0 : Int) ≤ (i : Int) := by omega
          by_cases hlt : i < z
          · have i1 : (i : Int) < (z : Int) := by omega
            obtain ⟨bp, op, rfl, hc⟩ := lists_cells HX.out.1 (by rw [Li.datas_len]; omega)
            obtain ⟨u, hu, hub⟩ := hc i (by rw [Li.datas_len]; exact hlt)
            have hpk := Li.datas_same b f z 0 i hlt
            rw [Nat.zero_add, List.getElem?_eq_getElem (by rw [Li.datas_len]; exact hlt)] at hpk
            rw [Option.some.inj hpk] at hub
            obtain ⟨ua, uc, rfl⟩ := bytes_form hub
            rw [Li.length_packet] at hu hub
            obtain ⟨bq, oq, rfl, _, hq⟩ := BytesIn.cells hub (by rw [Li.length_packet]; omega)
            have hcap : 5 + b.length ≤ uc ∧ uc ≤ maxLen := by
              obtain ⟨_, _, e, h1, h2, _⟩ := BytesIn.open_ hub
              simp only [Value.slice.injEq] at e; obtain ⟨_, _, rfl⟩ := e; rw [Li.length_packet] at h1; exact ⟨h1, h2⟩
            have d0 : wr.cell? ⟨bq, oq, none⟩ = some (.int .u8 68) := by have := hq 0 (by rw [Li.length_packet]; omega); rw [Nat.add_zero] at this; exact this
            have d4 : wr.cell? ⟨bq, oq + 4, none⟩ = some (.int .u8 ((f + i : Nat) : Int)) := by
              have := hq 4 (by rw [Li.length_packet]; omega)
              rw [this]
              have e : (Li.packet 68 ((f + i) % Li.M) b)[4]'(by rw [Li.length_packet]; omega) = UInt8.ofNat ((f + i) % Li.M) := rfl
              rw [e]
              congr 2
              simp [Li.M]
              omega
            obtain ⟨ad5, hsl5, hs5, hs6⟩ := slice_lk (P := Try.prog) Try.underlying22 (by kernel_rfl) .i64 (some ⟨bq, oq, none⟩) (5 + b.length) uc 5 5 rfl (by omega)
            obtain ⟨a5, rfl⟩ : ∃ a5, ad5 = some a5 := by
              rcases Nat.lt_or_ge 5 uc with h | h
              · exact ⟨_, by rw [hs5 h, Option.map_some]⟩
              · exact ⟨_, hs6 (by omega)⟩
            have hpc := Bytes.cut hub 5 (5 + b.length) (uc - 5) (by omega) (by rw [Li.length_packet]; omega) (ad := a5) ⟨by omega, by omega⟩ (fun h => by have := hs5 (by omega); rw [Option.map_some, add_none] at this; exact Option.some.inj this)
            rw [List.take_of_length_le (by rw [List.length_drop, Li.length_packet]; exact Nat.le_refl _)] at hpc
            have hpc2 : Bytes wr gr 41 (.slice (some a5) (5 + b.length - 5) (uc - 5)) b := hpc
            have HSB := Lib.hid (And.intro hpc2 HX.out.2.2)
            clear hq hc hub hpc hpc2 hs5 hs6 hpk hcap
            rw [Nat.add_sub_cancel_left] at hsl5
            rw [Nat.add_sub_cancel_left] at HSB
            go_wp2_with fail
            refine (sameBytes_eq wr (fun b => gr b = 41) (fun b => gr b = 0) _ _ b HSB.out.1 HSB.out.2).mono ?_
            rintro e w7 ⟨rfl, m7, rfl⟩
            go_wp2_with fail
            go_roundg (z - (i + 1))
            case measure => omega
            case rel => exact ⟨i + 1, gr, by omega, rfl, by go_num, HX.out.1.turn (Turn.drewN wr gr _) (by simp) (by simp), since_drewN HX.out.2.1 _, HX.out.2.2.turn (Turn.drewN wr gr _) (by simp)⟩
          · obtain rfl : i = z := by omega
            go_wp2_with fail
            go_ret
            exact ⟨rfl, HX.out.2.1.below⟩
      · have hnm1 : (m : Int) < (n : Int) := by omega
        obtain ⟨f, hf⟩ : ∃ f : Nat, f = 0 := ⟨_, rfl⟩
        obtain ⟨z, hz⟩ : ∃ z, z = m := ⟨_, rfl⟩
        have HK := Lib.hid (show Li.came (Li.same b m 0) (Li.packet 65 n []) = ([], 0, Li.same b z f) by rw [Li.came_known _ n hn, Li.known_out b m n (by omega) hn, ← hz, ← hf])
        have hfz : (m : Int) - (z : Int) = (f : Int) := by omega
        have hf0 : f ≤ 16 := by omega
        have hz0 : z ≤ 16 := by omega
        obtain rfl : z = m := hz
        clear hf hnm
        have hfew : f + z ≤ 32 := by omega
        refine came_k 50 C4a.out.1 C4a.out.2 (by decide) (by decide) (by decide) HK.out rfl fun al cl w5 g5 T5 L5 E5 => ?_
        have C5 := Lib.hid (And.intro (C3'.out.1.turn T5 (by decide)) (And.intro (C3'.out.2.turn T5 (by decide)) E5))
        clear T5 L5 E5 C3' C4a
        go_wp2_with fail
        refine packets_k 40 41 C5.out.2.2 (by decide) (by decide) (by decide) (by decide) (by decide) (by decide) (Li.packets_same b z f) fun ap cp w6 g6 T6 L6 E6 => ?_
        rw [Li.datas_len]
        have hwl2 := Lib.hid (show (Li.same b z f).waits.length = z from List.length_replicate)
        have C6 := Lib.hid (And.intro (C5.out.1.turn T6 (by decide)) (And.intro (C5.out.2.1.turn T6 (by decide)) (by rw [Li.datas_len] at L6; exact L6)))
        have HE6 := Lib.hid (show EndIs w6 g6 10 ea (Li.same b z f) _ from E6)
        clear T6 L6 E6 C5
        go_wp2_with fail
        refine waits_t HE6.out ?_
        rw [hwl2.out]
        go_wp2_with fail
        have hz1 : (z : Int) ≤ 16 := by omega
        have hf1 : (f : Int) ≤ 16 := by omega
        go_loopg [16] z (fun gk vi wr => LookAt w (.slice ap z cp) (Li.datas f 0 (List.replicate z b)) (.slice ao b.length cap) b z gk vi wr)
        case atStart => exact ⟨0, _, Nat.zero_le _, rfl, rfl, C6.out.2.2, C6.out.1, C6.out.2.1⟩
        case round =>
          obtain ⟨i, gr, hi, rfl, rfl, hL, hS, hb⟩ := hrel
          have HX := Lib.hid (And.intro hL (And.intro hS hb))
          clear hL hS hb C6
          have i0 : (0 : Int) ≤ (i : Int) := by omega
          by_cases hlt : i < z
          · have i1 : (i : Int) < (z : Int) := by omega
            obtain ⟨bp, op, rfl, hc⟩ := lists_cells HX.out.1 (by rw [Li.datas_len]; omega)
            obtain ⟨u, hu, hub⟩ := hc i (by rw [Li.datas_len]; exact hlt)
            have hpk := Li.datas_same b f z 0 i hlt
            rw [Nat.zero_add, List.getElem?_eq_getElem (by rw [Li.datas_len]; exact hlt)] at hpk
            rw [Option.some.inj hpk] at hub
            obtain ⟨ua, uc, rfl⟩ := bytes_form hub
            rw [Li.length_packet] at hu hub
            obtain ⟨bq, oq, rfl, _, hq⟩ := BytesIn.cells hub (by rw [Li.length_packet]; omega)
            have hcap : 5 + b.length ≤ uc ∧ uc ≤ maxLen := by
              obtain ⟨_, _, e, h1, h2, _⟩ := BytesIn.open_ hub
              simp only [Value.slice.injEq] at e; obtain ⟨_, _, rfl⟩ := e; rw [Li.length_packet] at h1; exact ⟨h1, h2⟩
            have d0 : wr.cell? ⟨bq, oq, none⟩ = some (.int .u8 68) := by have := hq 0 (by rw [Li.length_packet]; omega); rw [Nat.add_zero] at this; exact this
            have d4 : wr.cell? ⟨bq, oq + 4, none⟩ = some (.int .u8 ((f + i : Nat) : Int)) := by
              have := hq 4 (by rw [Li.length_packet]; omega)
              rw [this]
              have e : (Li.packet 68 ((f + i) % Li.M) b)[4]'(by rw [Li.length_packet]; omega) = UInt8.ofNat ((f + i) % Li.M) := rfl
              rw [e]
              congr 2
              simp [Li.M]
              omega
            obtain ⟨ad5, hsl5, hs5, hs6⟩ := slice_lk (P := Try.prog) Try.underlying22 (by kernel_rfl) .i64 (some ⟨bq, oq, none⟩) (5 + b.length) uc 5 5 rfl (by omega)
            obtain ⟨a5, rfl⟩ : ∃ a5, ad5 = some a5 := by
              rcases Nat.lt_or_ge 5 uc with h | h
              · exact ⟨_, by rw [hs5 h, Option.map_some]⟩
              · exact ⟨_, hs6 (by omega)⟩
            have hpc := Bytes.cut hub 5 (5 + b.length) (uc - 5) (by omega) (by rw [Li.length_packet]; omega) (ad := a5) ⟨by omega, by omega⟩ (fun h => by have := hs5 (by omega); rw [Option.map_some, add_none] at this; exact Option.some.inj this)
            rw [List.take_of_length_le (by rw [List.length_drop, Li.length_packet]; exact Nat.le_refl _)] at hpc
            have hpc2 : Bytes wr gr 41 (.slice (some a5) (5 + b.length - 5) (uc - 5)) b := hpc
            have HSB := Lib.hid (And.intro hpc2 HX.out.2.2)
            clear hq hc hub hpc hpc2 hs5 hs6 hpk hcap
            rw [Nat.add_sub_cancel_left] at hsl5
            rw [Nat.add_sub_cancel_left] at HSB
            go_wp2_with fail
            refine (sameBytes_eq wr (fun b => gr b = 41) (fun b => gr b = 0) _ _ b HSB.out.1 HSB.out.2).mono ?_
            rintro e w7 ⟨rfl, m7, rfl⟩
            go_wp2_with fail
            go_roundg (z - (i + 1))
            case measure => omega
            case rel => exact ⟨i + 1, gr, by omega, rfl, by go_num, HX.out.1.turn (Turn.drewN wr gr _) (by simp) (by simp), since_drewN HX.out.2.1 _, HX.out.2.2.turn (Turn.drewN wr gr _) (by simp)⟩
          · obtain rfl : i = z := by omega
            go_wp2_with fail
            go_ret
            exact ⟨rfl, HX.out.2.1.below⟩
end Go.Proofs.Ytoedalocfepkoaa
