/- A book of lists of bytes: it puts more behind each, and looks. -/
import Derived.Test.YtoedalocfepkoaaGreatDoorBk
namespace Go.My
def Ent.with_ (x : Ent) (la : Option Addr) (ll lc : Nat) : Ent := ⟨x.va, x.n, x.vc, la, ll, lc, x.num⟩

theorem rows_set (hs : List Ent) (i : Nat) (hi : i < hs.length) (la : Option Addr) (ll lc : Nat) : rows (hs.set i (hs[i].with_ la ll lc)) = (rows hs).set (i * 3 + 1) (.slice la ll lc) := by
  induction hs generalizing i with
  | nil => exact absurd hi (Nat.not_lt_zero _)
  | cons x hs ih =>
    have e : ∀ (y : Ent) (r : List Ent), rows (y :: r) = y.v :: y.long :: .int .i64 (y.num : Int) :: rows r := fun y r => by simp [rows, Ent.cells]
    cases i with
    | zero => simp only [List.set_cons_zero, List.getElem_cons_zero, e]; rfl
    | succ i =>
      have e3 : (i + 1) * 3 + 1 = (i * 3 + 1) + 3 := by omega
      simp only [List.set_cons_succ, List.getElem_cons_succ, e, e3]
      rw [ih i (by simpa using hi)]
end Go.My
namespace Go.Proofs.YtoedalocfepkoaaGreatDoor
open Go.RowKit Go.My

theorem u8Elem : Elem Tryz.prog 42 5 1 1 (.int .u8 0) := Elem.mk' Tryz.underlying42 (by kernel_rfl) rfl (by decide)

/-- The first i of them have more behind them. -/
def GrownTo (w : World) (g : Tags) (hs : List Ent) (i : Nat) : Prop :=
  ∀ j (hj : j < hs.length), if j < i then hs[j].ll = hs[j].n + 40 ∧ Grown w g (entTag j) bytesU8 1 hs[j].v hs[j].n (List.replicate hs[j].n (markOf hs[j].num)) hs[j].long 40 (List.replicate 40 (markOf hs[j].num)) else Owns w g (entTag j) bytesU8 1 hs[j].v hs[j].n (List.replicate hs[j].n (markOf hs[j].num))

theorem GrownTo.turn {w w' : World} {g g' : Tags} {hs : List Ent} {i : Nat} {T : List Nat} (h : GrownTo w g hs i) (k : Turn w g w' g' T) (hT : ∀ j, entTag j ∉ T) : GrownTo w' g' hs i := by
  intro j hj
  have := h j hj
  by_cases hlt : j < i
  · rw [if_pos hlt] at this ⊢; exact ⟨this.1, this.2.turn k (hT j)⟩
  · rw [if_neg hlt] at this ⊢; exact this.turn k (hT j)

theorem GrownTo.next {w w' : World} {g g' : Tags} {hs : List Ent} {i : Nat} (h : GrownTo w g hs i) (hi : i < hs.length) (k : Turn w g w' g' [entTag i]) {la : Option Addr} {lc : Nat}
    (hn : Grown w' g' (entTag i) bytesU8 1 hs[i].v hs[i].n (List.replicate hs[i].n (markOf hs[i].num)) (.slice la (hs[i].n + 40) lc) 40 (List.replicate 40 (markOf hs[i].num))) : GrownTo w' g' (hs.set i (hs[i].with_ la (hs[i].n + 40) lc)) (i + 1) := by
  intro j hj
  have hj' : j < hs.length := by simpa using hj
  by_cases hji : j = i
  · subst hji
    have e : (hs.set j (hs[j].with_ la (hs[j].n + 40) lc))[j]'hj = hs[j].with_ la (hs[j].n + 40) lc := by simp
    rw [if_pos (by omega), e]
    exact ⟨rfl, hn⟩
  · have e : (hs.set i (hs[i].with_ la (hs[i].n + 40) lc))[j]'hj = hs[j] := by rw [List.getElem_set, if_neg (fun h => hji h.symm)]
    rw [e]
    have := h j hj'
    by_cases hlt : j < i
    · rw [if_pos hlt] at this; rw [if_pos (by omega)]; exact ⟨this.1, this.2.turn k (entTag_ne hji)⟩
    · rw [if_neg hlt] at this; rw [if_neg (by omega)]; exact this.turn k (entTag_ne hji)

def GrowAt (w : World) (g : Tags) (bp : Nat) (cs : Array Value) (m : Nat) (gk : Nat) (v2 : Value) (wr : World) : Prop :=
  ∃ (i : Nat) (hs : List Ent) (g' : Tags), hs.length = m ∧ i ≤ m ∧ gk = m - i ∧ v2 = .int .i64 (i : Int) ∧ Turn w g wr g' (802 :: entTags m) ∧ Book wr g' bp cs hs ∧ GrownTo wr g' hs i

def Grow1 (wx : World) (gx : Tags) (bx : Nat) (x : Ent) (t : Nat) (gk : Nat) (v4 v5 : Value) (wr : World) : Prop :=
  ∃ (k : Nat) (la : Option Addr) (lc : Nat) (g' : Tags), k ≤ 40 ∧ gk = 40 - k ∧ v4 = .slice la (x.n + k) lc ∧ v5 = .int .i64 (k : Int) ∧ Turn wx gx wr g' [t] ∧ Bx wr g' bx 79 900 #[.slice x.va x.n x.vc, .slice x.la x.ll x.lc, .int .i64 (x.num : Int)] ∧
    Grown wr g' t bytesU8 1 x.v x.n (List.replicate x.n (markOf x.num)) (.slice la (x.n + k) lc) k (List.replicate k (markOf x.num))

set_option maxRecDepth 100000 in
set_option maxHeartbeats 4000000 in
theorem grow_t {w : World} {g : Tags} {bp : Nat} {cs : Array Value} {hs0 : List Ent} (hB : Book w g bp cs hs0) (hF : GrownTo w g hs0 0) {Q : Ending → World → Prop}
    (h : ∀ w' g' hs, Turn w g w' g' (802 :: entTags hs0.length) → Book w' g' bp cs hs → hs.length = hs0.length → GrownTo w' g' hs hs.length → Q (.returned (.tuple #[])) w') :
    Calls Tryz.prog 44 #[.pointer (some ⟨bp, 0, none⟩)] w Q := by
  have H := Lib.hid h
  have X0 := Lib.hid (And.intro hB hF)
  obtain ⟨m, hmm⟩ : ∃ m, m = hs0.length := ⟨_, rfl⟩
  have HM := Lib.hid hmm
  clear h hB hF hmm
  go_enter Tryz.func44, Tryz.ntmps44
  go_wp2_with fail
  go_loopg [2] m (fun gk v2 wr => GrowAt w g bp cs m gk v2 wr)
  case atStart => exact ⟨0, hs0, g, HM.out.symm, Nat.zero_le _, rfl, rfl, Turn.refl _ _ _, X0.out.1, X0.out.2⟩
  case round =>
    obtain ⟨i, hs, g1, hml, hi, rfl, rfl, hT, hB, hF⟩ := hrel
    subst hml
    obtain ⟨vb, hvb, hA⟩ := hB.arr
    obtain ⟨ao, cap, hform⟩ := hA.form
    subst hform
    have c1 : wr.cell? ⟨bp, 1, none⟩ = some (.slice ao hs.length cap) := (hB.box.cell 1).1.trans hvb
    have i0 : (0 : Int) ≤ (i : Int) := by omega
    have hm : (hs.length : Int) ≤ 1000000000 := by have := hB.few; omega
    have X := Lib.hid (And.intro hT (And.intro hB hF))
    clear hT hF X0
    by_cases hlt : i < hs.length
    · have i1 : (i : Int) < (hs.length : Int) := by omega
      obtain ⟨b, off, cap', hv, hgb, _, _, hbl, hc⟩ := hA.cell (by omega)
      cases hv
      obtain ⟨r0, r1, r2⟩ := rows_at hs i hlt
      have d0 : wr.cell? ⟨b, off + i * 3, none⟩ = some hs[i].v := (hc (i * 3) (by omega)).1.trans r0
      have d1 : wr.cell? ⟨b, off + i * 3 + 1, none⟩ = some hs[i].long := (hc (i * 3 + 1) (by omega)).1.trans r1
      have d2 : wr.cell? ⟨b, off + i * 3 + 2, none⟩ = some (.int .i64 (hs[i].num : Int)) := (hc (i * 3 + 2) (by omega)).1.trans r2
      have hok := hB.ok _ (List.getElem_mem hlt)
      have hx : Owns wr g1 (entTag i) bytesU8 1 hs[i].v hs[i].n (List.replicate hs[i].n (markOf hs[i].num)) := by have := X.out.2.2 i hlt; rw [if_neg (by omega)] at this; exact this
      obtain ⟨x, hxx⟩ : ∃ x, x = hs[i] := ⟨_, rfl⟩
      rw [← hxx] at d0 d1 d2 hok hx
      obtain ⟨va, n, vc, la, ll, lc, num⟩ := x
      simp only [Ent.v, Ent.long] at d0 d1 d2 hok hx
      have T2 := Turn.alloc wr g1 900 (.cells #[.slice va n vc, .slice la ll lc, .int .i64 (num : Int)] 79)
      have B2 := Bx.alloc wr g1 79 900 #[.slice va n vc, .slice la ll lc, .int .i64 (num : Int)]
      have X2 := Lib.hid (And.intro T2 (And.intro B2 (hx.turn T2 (by simp)).grown))
      have HX := Lib.hid (And.intro hxx (And.intro hlt hok))
      have HV := Lib.hid hvb
      have hn1 : (n : Int) ≤ 1000000000 := by have := hok.1; omega
      have hnum : (num : Int) ≤ 1000000000 := by have := hok.2.2; omega
      clear T2 B2 hx hok hxx hvb hA hB hc r0 r1 r2 hi
      go_upto_region 4 with fail
      obtain ⟨bx, hbx⟩ : ∃ bx, bx = wr.heap.size := ⟨_, rfl⟩
      rw [← hbx] at X2 ⊢
      generalize hw2 : wr.alloc (.cells #[.slice va n vc, .slice la ll lc, .int .i64 (num : Int)] 79) = w2 at X2 ⊢
      generalize g1.ext bx 900 = g2 at X2
      clear hw2 d0 d1 d2 hbx
      have e0 : w2.cell? ⟨bx, 0, none⟩ = some (.slice va n vc) := (X2.out.2.1.cell 0).1
      go_wp2_with fail
      clear e0
      go_loopg [4, 5] 40 (fun gk v4 v5 wr => Grow1 w2 g2 bx ⟨va, n, vc, la, ll, lc, num⟩ (entTag i) gk v4 v5 wr)
      case atStart => exact ⟨0, va, vc, g2, by decide, rfl, rfl, rfl, Turn.refl _ _ _, X2.out.2.1, X2.out.2.2⟩
      case round =>
        obtain ⟨k, ua, uc, g3, hk, rfl, rfl, rfl, hT3, hB3, hG3⟩ := hrel
        simp only [Ent.v] at hG3 hB3
        have k0 : (0 : Int) ≤ (k : Int) := by omega
        by_cases hkn : k < 40
        · have k1 : (k : Int) < 40 := by omega
          have e2 := (hB3.cell 2).1
          simp at e2
          have T4 := Turn.alloc wr g3 901 (.cells #[.int .u8 (1 + (num : Int) % 250)] 5)
          have S4 : ∀ j q, [Value.int .u8 (1 + (num : Int) % 250)][j]? = some q → (wr.alloc (.cells #[.int .u8 (1 + (num : Int) % 250)] 5)).cell? ((⟨wr.heap.size, 0, none⟩ : Addr).add j) = some q := by
            intro j q hj
            rw [add_none, cell_of_row _ wr.heap.size (0 + j) _ _ _ (heap_alloc_new wr _), ← hj]
            simp
          have X4 := Lib.hid (And.intro (hT3.trans T4 (V := [entTag i]) (by simp) (by simp)) (And.intro (hB3.turn T4 (by simp)) (And.intro (hG3.turn T4 (by simp)) S4)))
          clear T4 S4 hT3 hB3 hG3
          go_wp2_with fail
          refine (mark_t num (by omega) _).mono ?_
          rintro e w' ⟨rfl, hw'⟩
          obtain rfl : wr = w' := hw'.symm
          clear e2
          go_wp2_with (refine wpList_append_grown _ rfl (.tmp 28) (.tmp 32) rfl u8Elem (u := .slice ua (n + k) uc) (y := .slice (some ⟨wr.heap.size, 0, none⟩) 1 1) (ad := ⟨wr.heap.size, 0, none⟩) (c := 1) (news := [.int .u8 (1 + (num : Int) % 250)]) rfl X4.out.2.2.1 rfl rfl rfl X4.out.2.2.2 (by simp [Value.oneCell']) (by unfold maxLen; omega) (by omega) ?_; intro ua' uc' w6 g6 hG6 hT6; have X6 := Lib.hid (And.intro hG6 hT6); clear hG6 hT6)
          have e5 : List.replicate k (markOf num) ++ [Value.int .u8 (1 + (num : Int) % 250)] = List.replicate (k + 1) (markOf num) := by rw [List.replicate_succ']; rfl
          have X7 := Lib.hid (And.intro (X4.out.1.trans X6.out.2 (V := [entTag i]) (by simp) (by simp)) (And.intro (X4.out.2.1.turn X6.out.2 (by simp [entTag]; omega)) (e5 ▸ X6.out.1)))
          clear X4 X6 e5
          go_roundg (40 - (k + 1))
          case measure => omega
          case rel => exact ⟨k + 1, ua', uc', g6, by omega, rfl, rfl, by go_num, X7.out.1, X7.out.2.1, X7.out.2.2⟩
        · obtain rfl : k = 40 := by omega
          have T4 := X2.out.1.trans hT3 (V := [entTag i]) (by simp) (by simp)
          have B5 := X.out.2.1.turn T4 (by simp [entTag]; omega) (by simp [entTag]; omega)
          obtain ⟨vb, hvb, hA⟩ := B5.arr
          have hvb' : vb = .slice (some ⟨b, off, none⟩) hs.length cap := by
            have := HV.out; rw [hvb] at this; exact Option.some.inj this
          subst hvb'
          have q1 : wr.cell? ⟨bp, 1, none⟩ = some (.slice (some ⟨b, off, none⟩) hs.length cap) := (B5.box.cell 1).1.trans hvb
          obtain ⟨_, _, _, hv, _, _, _, _, hc⟩ := hA.cell (by omega)
          cases hv
          obtain ⟨_, r1, _⟩ := rows_at hs i hlt
          obtain ⟨z0, z1⟩ := hc (i * 3 + 1) (by omega)
          have q2 : wr.cell? ⟨b, off + i * 3 + 1, none⟩ = some (hs[i]).long := z0.trans r1
          have q3 : wr.frozen? ⟨b, off + i * 3 + 1, none⟩ = false := z1
          have S := hA.set (i * 3 + 1) (by omega) (.slice ua (n + 40) uc)
          rw [← Nat.add_assoc] at S
          have hgr := X.out.2.2.next HX.out.2.1 T4 (la := ua) (lc := uc) (by rw [← HX.out.1]; exact hG3)
          have hlen : (hs.set i (hs[i].with_ ua (hs[i].n + 40) uc)).length = hs.length := by simp
          have hnn : hs[i].n = n := by rw [← HX.out.1]
          have B6 : Book (wr.setCell ⟨b, off + i * 3 + 1, none⟩ (.slice ua (n + 40) uc)) g3 bp cs (hs.set i (hs[i].with_ ua (hs[i].n + 40) uc)) := by
            refine ⟨B5.box.turn S.2 (by decide), ⟨_, hvb, ?_⟩, by rw [hlen]; exact B5.few, fun x hx => ?_⟩
            · have h9 := S.1
              have e9 := rows_set hs i hlt ua (hs[i].n + 40) uc
              have e10 : rows (hs.set i (hs[i].with_ ua (hs[i].n + 40) uc)) = (rows hs).set (i * 3 + 1) (.slice ua (n + 40) uc) := by rw [e9, hnn]
              rw [hlen, e10]
              exact h9
            · rcases List.mem_or_eq_of_mem_set hx with h | h
              · exact B5.ok _ h
              · subst h; have := B5.ok _ (List.getElem_mem hlt); exact this
          have X8 := Lib.hid (And.intro (X.out.1.trans (T4.trans S.2 (V := [entTag i, 802]) (by simp) (by simp)) (V := 802 :: entTags hs.length) (fun _ h => h) (fun t ht => by
            rcases List.mem_cons.1 ht with h | h
            · exact List.mem_cons_of_mem _ (entTag_mem hlt t (List.mem_singleton.2 h))
            · rw [List.mem_singleton.1 h]; exact List.mem_cons_self ..)) (And.intro B6 (hgr.turn S.2 (fun j => by unfold entTag; simp; omega))))
          clear hT3 hB3 hG3 T4 B5 hA hvb hc r1 z0 z1 S hgr B6 hnn
          generalize hs.set i (hs[i].with_ ua (hs[i].n + 40) uc) = hs' at *
          generalize hs[i] = y at *
          obtain ⟨yva, yn, yvc, yla, yll, ylc, ynum⟩ := y
          simp only [Ent.long] at q2
          go_wp2_with fail
          go_roundg (hs.length - (i + 1))
          case measure => omega
          case rel => exact ⟨i + 1, _, g3, hlen, hlt, rfl, by go_num, X8.out.1, X8.out.2.1, X8.out.2.2⟩
    · obtain rfl : i = hs.length := by omega
      clear hlt hvb hA hB
      go_wp2_with fail
      go_end0
      exact H.out _ g1 hs (HM.out ▸ X.out.1) X.out.2.1 HM.out X.out.2.2
end Go.Proofs.YtoedalocfepkoaaGreatDoor
