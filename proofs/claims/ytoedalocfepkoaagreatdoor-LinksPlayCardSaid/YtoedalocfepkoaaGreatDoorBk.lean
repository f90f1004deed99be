/- A book of lists of bytes: what its functions compute. -/
import Derived.Test.YtoedalocfepkoaaGreatDoorBkNil
import Derived.StillTailTactics
namespace Go.My
/-- A list that a book holds: where it lies, how many elements it has, its room; the longer one; the number. -/
structure Ent where
  va : Option Addr
  n : Nat
  vc : Nat
  la : Option Addr
  ll : Nat
  lc : Nat
  num : Nat
def Ent.v (x : Ent) : Value := .slice x.va x.n x.vc
def Ent.long (x : Ent) : Value := .slice x.la x.ll x.lc
def Ent.cells (x : Ent) : List Value := [x.v, x.long, .int .i64 (x.num : Int)]
def rows (hs : List Ent) : List Value := hs.flatMap Ent.cells

theorem rows_length (hs : List Ent) : (rows hs).length = hs.length * 3 := by
  induction hs with
  | nil => rfl
  | cons x hs ih =>
    have : rows (x :: hs) = x.cells ++ rows hs := by simp [rows]
    rw [this, List.length_append, ih, List.length_cons]; simp [Ent.cells]; omega
theorem rows_at (hs : List Ent) (i : Nat) (hi : i < hs.length) : (rows hs)[i * 3]? = some hs[i].v ∧ (rows hs)[i * 3 + 1]? = some hs[i].long ∧ (rows hs)[i * 3 + 2]? = some (.int .i64 (hs[i].num : Int)) := by
  induction hs generalizing i with
  | nil => exact absurd hi (Nat.not_lt_zero _)
  | cons x hs ih =>
    have e : rows (x :: hs) = x.v :: x.long :: .int .i64 (x.num : Int) :: rows hs := by simp [rows, Ent.cells]
    rw [e]
    cases i with
    | zero => exact ⟨rfl, rfl, rfl⟩
    | succ i =>
      have := ih i (by simpa using hi)
      have e3 : (i + 1) * 3 = i * 3 + 3 := by omega
      rw [e3]
      exact this

/-- The tags of a book's lists. -/
def entTag (i : Nat) : Nat := 1000 + i
def entTags (m : Nat) : List Nat := (List.range m).map (1000 + ·)
theorem entTag_mem {i m : Nat} (h : i < m) : ∀ t, t ∈ [entTag i] → t ∈ entTags m := by
  intro t ht
  rw [List.mem_singleton.1 ht]
  exact List.mem_map.2 ⟨i, List.mem_range.2 h, rfl⟩
theorem not_entTags {t m : Nat} (h : t < 1000) : t ∉ entTags m := not_mem_upto t m 1000 (.inl h)
theorem entTag_ne {i j : Nat} (h : i ≠ j) : entTag i ∉ [entTag j] := by unfold entTag; simp; omega
end Go.My
namespace Go.Proofs.YtoedalocfepkoaaGreatDoor
open Go.RowKit Go.My

def markOf (c : Nat) : Value := .int .u8 (1 + (c : Int) % 250)

theorem mark_t (c : Nat) (hc : c ≤ 1000000000) (w : World) : Calls Tryz.prog 69 #[.int .i64 (c : Int)] w fun e w' => e = .returned (.int .u8 (1 + (c : Int) % 250)) ∧ w' = w := by
  have h0 : (0 : Int) ≤ (c : Int) := by omega
  have h1 : (c : Int) ≤ 1000000000 := by omega
  go_enter Tryz.func69, Tryz.ntmps69
  go_wp2
  go_ret
  exact ⟨rfl, rfl⟩

/-- A book: its cells; the lists of bytes that it holds. -/
structure Book (w : World) (g : Tags) (bp : Nat) (cs : Array Value) (hs : List Ent) : Prop where
  box : Bx w g bp 41 801 cs
  arr : ∃ vb, cs[1]? = some vb ∧ Owns w g 802 79 3 vb hs.length (rows hs)
  few : hs.length ≤ 1000000000
  ok : ∀ x ∈ hs, x.n ≤ 1000000000 ∧ 0 < x.num ∧ x.num ≤ 1000000000

theorem Book.turn {w w' : World} {g g' : Tags} {T : List Nat} {bp : Nat} {cs : Array Value} {hs : List Ent} (h : Book w g bp cs hs) (k : Turn w g w' g' T) (h1 : 801 ∉ T) (h2 : 802 ∉ T) : Book w' g' bp cs hs := by
  obtain ⟨vb, h3, h4⟩ := h.arr
  exact ⟨h.box.turn k h1, ⟨vb, h3, h4.turn k h2⟩, h.few, h.ok⟩

def bytesU8 : TypeId := 5
/-- Each list, as it came; the first i of them as they are filled. -/
def Filled (w : World) (g : Tags) (hs : List Ent) (i : Nat) : Prop :=
  ∀ j (hj : j < hs.length), if j < i then Owns w g (entTag j) bytesU8 1 hs[j].v hs[j].n (List.replicate hs[j].n (markOf hs[j].num)) else ∃ xs, Owns w g (entTag j) bytesU8 1 hs[j].v hs[j].n xs

theorem Filled.other {w w' : World} {g g' : Tags} {hs : List Ent} {i : Nat} (h : Filled w g hs i) (hi : i < hs.length) (k : Turn w g w' g' [entTag i]) (hn : Owns w' g' (entTag i) bytesU8 1 hs[i].v hs[i].n (List.replicate hs[i].n (markOf hs[i].num))) : Filled w' g' hs (i + 1) := by
  intro j hj
  by_cases hji : j = i
  · subst hji; rw [if_pos (by omega)]; exact hn
  · have := h j hj
    by_cases hlt : j < i
    · rw [if_pos hlt] at this; rw [if_pos (by omega)]; exact this.turn k (entTag_ne hji)
    · rw [if_neg hlt] at this; rw [if_neg (by omega)]
      obtain ⟨xs, hx⟩ := this
      exact ⟨xs, hx.turn k (entTag_ne hji)⟩
theorem Filled.turn {w w' : World} {g g' : Tags} {hs : List Ent} {i : Nat} {T : List Nat} (h : Filled w g hs i) (k : Turn w g w' g' T) (hT : ∀ j, entTag j ∉ T) : Filled w' g' hs i := by
  intro j hj
  have := h j hj
  by_cases hlt : j < i
  · rw [if_pos hlt] at this ⊢; exact this.turn k (hT j)
  · rw [if_neg hlt] at this ⊢
    obtain ⟨xs, hx⟩ := this
    exact ⟨xs, hx.turn k (hT j)⟩

def FillAt (w : World) (g : Tags) (bp : Nat) (cs : Array Value) (hs : List Ent) (gk : Nat) (v2 : Value) (wr : World) : Prop :=
  ∃ (i : Nat) (g' : Tags), i ≤ hs.length ∧ gk = hs.length - i ∧ v2 = .int .i64 (i : Int) ∧ Turn w g wr g' (entTags hs.length) ∧ Book wr g' bp cs hs ∧ Filled wr g' hs i

def Fill1 (wx : World) (gx : Tags) (bx : Nat) (x : Ent) (t : Nat) (gk : Nat) (v4 : Value) (wr : World) : Prop :=
  ∃ (k : Nat) (xs : List Value) (g' : Tags), k ≤ x.n ∧ gk = x.n - k ∧ v4 = .int .i64 (k : Int) ∧ Turn wx gx wr g' [t] ∧ Bx wr g' bx 79 900 #[.slice x.va x.n x.vc, .slice x.la x.ll x.lc, .int .i64 (x.num : Int)] ∧ Owns wr g' t bytesU8 1 x.v x.n (List.replicate k (markOf x.num) ++ xs)

set_option maxRecDepth 100000 in
set_option maxHeartbeats 4000000 in
theorem fill_t {w : World} {g : Tags} {bp : Nat} {cs : Array Value} {hs : List Ent} (hB : Book w g bp cs hs) (hF : Filled w g hs 0) {Q : Ending → World → Prop}
    (h : ∀ w' g', Turn w g w' g' (entTags hs.length) → Book w' g' bp cs hs → Filled w' g' hs hs.length → Q (.returned (.tuple #[])) w') :
    Calls Tryz.prog 32 #[.pointer (some ⟨bp, 0, none⟩)] w Q := by
  have H := Lib.hid h
  have X0 := Lib.hid (And.intro hB hF)
  clear h hB hF
  go_enter Tryz.func32, Tryz.ntmps32
  go_wp2_with fail
  go_loopg [2] hs.length (fun gk v2 wr => FillAt w g bp cs hs gk v2 wr)
  case atStart => exact ⟨0, g, Nat.zero_le _, rfl, rfl, Turn.refl _ _ _, X0.out.1, X0.out.2⟩
  case round =>
    obtain ⟨i, g1, hi, rfl, rfl, hT, hB, hF⟩ := hrel
    obtain ⟨vb, hvb, hA⟩ := hB.arr
    obtain ⟨ao, cap, hform⟩ := hA.form
    subst hform
    have c1 : wr.cell? ⟨bp, 1, none⟩ = some (.slice ao hs.length cap) := (hB.box.cell 1).1.trans hvb
    have i0 : (0 : Int) ≤ (i : Int) := by omega
    have hm : (hs.length : Int) ≤ 1000000000 := by have := hB.few; omega
    have X := Lib.hid (And.intro hT (And.intro hB hF))
    clear hT hF X0
    by_cases hlt : i < hs.length
    · have i1 : (i : Int) < (hs.length : Int) := by omega
      obtain ⟨b, off, cap', hv, _, _, _, _, hc⟩ := hA.cell (by omega)
      cases hv
      obtain ⟨r0, r1, r2⟩ := rows_at hs i hlt
      have d0 : wr.cell? ⟨b, off + i * 3, none⟩ = some hs[i].v := (hc (i * 3) (by omega)).1.trans r0
      have d1 : wr.cell? ⟨b, off + i * 3 + 1, none⟩ = some hs[i].long := (hc (i * 3 + 1) (by omega)).1.trans r1
      have d2 : wr.cell? ⟨b, off + i * 3 + 2, none⟩ = some (.int .i64 (hs[i].num : Int)) := (hc (i * 3 + 2) (by omega)).1.trans r2
      have hok := hB.ok _ (List.getElem_mem hlt)
      obtain ⟨xs, hx⟩ : ∃ xs, Owns wr g1 (entTag i) bytesU8 1 hs[i].v hs[i].n xs := by have := X.out.2.2 i hlt; rw [if_neg (by omega)] at this; exact this
      obtain ⟨x, hxx⟩ : ∃ x, x = hs[i] := ⟨_, rfl⟩
      rw [← hxx] at d0 d1 d2 hok hx
      obtain ⟨va, n, vc, la, ll, lc, num⟩ := x
      simp only [Ent.v, Ent.long] at d0 d1 d2 hok hx
      have T2 := Turn.alloc wr g1 900 (.cells #[.slice va n vc, .slice la ll lc, .int .i64 (num : Int)] 79)
      have B2 := Bx.alloc wr g1 79 900 #[.slice va n vc, .slice la ll lc, .int .i64 (num : Int)]
      have X2 := Lib.hid (And.intro T2 (And.intro B2 (hx.turn T2 (by simp))))
      have HX := Lib.hid (And.intro hxx (And.intro hlt hok))
      have hn1 : (n : Int) ≤ 1000000000 := by have := hok.1; omega
      have hnum : (num : Int) ≤ 1000000000 := by have := hok.2.2; omega
      clear T2 B2 hx hok hxx hvb hA hB hc r0 r1 r2 hi
      go_upto_region 4 with fail
      generalize hw2 : wr.alloc (.cells #[.slice va n vc, .slice la ll lc, .int .i64 (num : Int)] 79) = w2 at X2 ⊢
      generalize wr.heap.size = bx at X2 ⊢
      generalize g1.ext bx 900 = g2 at X2
      clear hw2 d0 d1 d2
      go_wp2_with fail
      go_loopg [4] n (fun gk v4 wr => Fill1 w2 g2 bx ⟨va, n, vc, la, ll, lc, num⟩ (entTag i) gk v4 wr)
      case atStart => exact ⟨0, xs, g2, Nat.zero_le _, rfl, rfl, Turn.refl _ _ _, X2.out.2.1, X2.out.2.2⟩
      case round =>
        obtain ⟨k, ys, g3, hk, rfl, rfl, hT3, hB3, hO3⟩ := hrel
        simp only [Ent.v] at hO3 hB3
        have hk : k ≤ n := hk
        have e0 := (hB3.cell 0).1
        have e2 := (hB3.cell 2).1
        simp at e0 e2
        have k0 : (0 : Int) ≤ (k : Int) := by omega
        by_cases hkn : k < n
        · have k1 : (k : Int) < (n : Int) := by omega
          obtain ⟨b1, off1, cap1, hv, _, _, _, hb1, hc⟩ := hO3.cell (by omega)
          cases hv
          obtain ⟨c0, c1⟩ := hc k (by omega)
          have hys : 0 < ys.length := by
            obtain ⟨_, ho, _⟩ := hO3
            have := ho.1
            simp at this
            omega
          obtain ⟨y, ys, rfl⟩ : ∃ y r, ys = y :: r := by cases ys with | nil => simp at hys | cons y r => exact ⟨y, r, rfl⟩
          have c0' : wr.cell? ⟨b1, off1 + k, none⟩ = some y := by
            rw [c0, List.getElem?_append_right (by simp)]; simp
          clear c0 hc
          go_wp2_with fail
          go_still_tail 7, (by kernel_rfl)
          still_call (mark_t num (by omega) _)
          repeat still_step
          refine wpStill_nil ?_
          change wpList _ _ _ _ _ wr.drew
          have D3 := Turn.drew wr g3
          have q0 : wr.drew.cell? ⟨b1, off1 + k, none⟩ = some y := c0'
          have q1 : wr.drew.frozen? ⟨b1, off1 + k, none⟩ = false := c1
          have X3 := Lib.hid (And.intro (hT3.trans D3 (V := [entTag i]) (by simp) (by simp)) (And.intro (hB3.turn D3 (by simp)) (hO3.turn D3 (by simp))))
          clear D3 c0' c1 hT3 hB3 hO3 e0 e2
          generalize wr.drew = w5 at *
          go_wp2_with fail
          have S := X3.out.2.2.set k (by omega) (.int .u8 (1 + (num : Int) % 250))
          have X4 := Lib.hid (And.intro (X3.out.1.trans S.2 (V := [entTag i]) (by simp) (by simp)) (And.intro (X3.out.2.1.turn S.2 (by simp [entTag]; omega)) S.1))
          clear S
          go_roundg (n - (k + 1))
          case measure => omega
          case rel =>
            refine ⟨k + 1, ys, g3, (show k + 1 ≤ n by omega), rfl, by go_num, X4.out.1, X4.out.2.1, ?_⟩
            have e : (List.replicate k (markOf num) ++ y :: ys).set k (markOf num) = List.replicate (k + 1) (markOf num) ++ ys := by
              rw [List.set_append_right _ _ (by simp)]; simp [List.replicate_succ']
            rw [← e]
            exact X4.out.2.2
        · obtain rfl : k = n := by omega
          have hys : ys = [] := by
            obtain ⟨_, ho, _⟩ := hO3
            have := ho.1
            simp at this
            exact this
          subst hys
          rw [List.append_nil] at hO3
          have T4 := X2.out.1.trans hT3 (V := [entTag i]) (by simp) (by simp)
          have X5 := Lib.hid (And.intro (X.out.1.trans T4 (V := entTags hs.length) (fun _ h => h) (entTag_mem HX.out.2.1)) (And.intro (X.out.2.1.turn T4 (by simp [entTag]; omega) (by simp [entTag]; omega)) (X.out.2.2.other HX.out.2.1 T4 (by rw [← HX.out.1]; exact hO3))))
          clear hT3 hB3 hO3 T4
          go_wp2_with fail
          go_roundg (hs.length - (i + 1))
          case measure => omega
          case rel => exact ⟨i + 1, g3, HX.out.2.1, rfl, by go_num, X5.out.1, X5.out.2.1, X5.out.2.2⟩
    · obtain rfl : i = hs.length := by omega
      clear hlt hvb hA hB
      go_wp2_with fail
      go_end0
      exact H.out _ g1 X.out.1 X.out.2.1 X.out.2.2
end Go.Proofs.YtoedalocfepkoaaGreatDoor
