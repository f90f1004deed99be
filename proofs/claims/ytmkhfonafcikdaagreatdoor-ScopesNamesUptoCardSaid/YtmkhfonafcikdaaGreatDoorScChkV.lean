/- Scopes: Check: what it asks of each argument, and of each part. -/
import Derived.Test.YtmkhfonafcikdaaGreatDoorScIdxV
import Derived.Test.YtmkhfonafcikdaaGreatDoorScFineWV
import Derived.Test.YtmkhfonafcikdaaGreatDoorScParts2V
import Derived.Test.YtmkhfonafcikdaaGreatDoorTrC1
import Derived.Test.YtmkhfonafcikdaaGreatDoorTrC3
namespace Go.Nd
/-- Small enough to be counted. -/
structure SmallP (p : Pr) : Prop where
  funcs : p.funcs.length ≤ 1048576
  each : ∀ f ∈ p.funcs, f.args.length ≤ 1048576 ∧ f.body.flat.length ≤ 1048576 - f.args.length
  body : p.body.flat.length ≤ 1048576
theorem flat_sz : ∀ xs : Ns, xs.flat.length ≤ xs.sz := by
  intro xs
  induction xs with
  | nil => exact Nat.le_refl _
  | cons k t l b e r ihl ihb ihe ihr =>
    show (_ :: (l.flat ++ (b.flat ++ (e.flat ++ r.flat)))).length ≤ 1 + t.length + l.sz + b.sz + e.sz + r.sz
    simp only [List.length_cons, List.length_append]
    omega
theorem sum_len (l : List (List UInt8)) : l.length ≤ (l.map (·.length + 1)).sum := by
  induction l with
  | nil => exact Nat.le_refl _
  | cons x l ih => simp only [List.length_cons, List.map_cons, List.sum_cons]; omega
theorem fsz_le {fs : List Fn} {f : Fn} (h : f ∈ fs) : fsz f ≤ (fs.map fsz).sum := by
  induction fs with
  | nil => cases h
  | cons g fs ih =>
    simp only [List.map_cons, List.sum_cons]
    rcases List.mem_cons.1 h with rfl | h
    · omega
    · have := ih h; omega
theorem fs_len (fs : List Fn) : fs.length ≤ (fs.map fsz).sum := by
  induction fs with
  | nil => exact Nat.le_refl _
  | cons f fs ih =>
    simp only [List.length_cons, List.map_cons, List.sum_cons]
    unfold fsz at ih ⊢
    omega
theorem small_of_psz {p : Pr} (h : psz p ≤ 1048576) : SmallP p := by
  unfold psz at h
  refine ⟨by have := fs_len p.funcs; omega, fun f hf => ?_, by have := flat_sz p.body; omega⟩
  have h1 := fsz_le hf
  have h2 := flat_sz f.body
  have h3 := sum_len f.args
  have h4 : fsz f = 1 + f.name.length + (f.args.map (·.length + 1)).sum + f.body.sz := rfl
  refine ⟨?_, ?_⟩ <;> omega
end Go.Nd
namespace Go.Proofs.YtmkhfonafcikdaaGreatDoor
open Go.RowKit Go.Maps Go.My Go.Nd Go.WideMaps

/-- The arguments of one function: so many are added; a variable points at the names. -/
structure ArSt (w0 W : World) (g : Tags) (ab nb : Nat) (cur : List Tx) (k : Nat) : Prop where
  since : Since w0 W g
  var : Blk W g ab 734 (.cells #[.pointer (some ⟨nb, 0, none⟩)] 71 (0, 0))
  nam : NamAt W g 730 nb cur k

set_option maxRecDepth 100000 in
set_option maxHeartbeats 4000000 in
/-- Is an argument one that was there? -/
theorem arg_one {w0 W : World} {g : Tags} {ab nb : Nat} {cur : List Tx} {k : Nat} {s : Tx} (h : ArSt w0 W g ab nb cur k) (hk : k ≤ 4000000) (hs : s.length ≤ 140737488351232) :
    Calls Tryz.prog 36 #[.string (bs s), .pointer (some ⟨ab, 0, none⟩)] W fun e W' => e = .returned (.bool (cur.contains s)) ∧ ∃ g', Turn W g W' g' [730, 731, 732] ∧ ArSt w0 W' g' ab nb (addN cur s) (k + 1) := by
  have d0 := cell_of_row W ab 0 _ _ _ h.var.1
  simp at d0
  have H := Lib.hid h
  have HS := Lib.hid hs
  clear h hs
  go_enter Tryz.func36, Tryz.ntmps36
  go_wp2_with fail
  refine add_t H.out.nam hk HS.out fun w' g' hT hN => ?_
  have X := Lib.hid (show Turn W g w' g' [730, 731, 732] ∧ ArSt w0 w' g' ab nb (addN cur s) (k + 1) from ⟨hT, H.out.since.turn hT (by simp), H.out.var.turn hT (by simp), hN⟩)
  clear hT hN d0
  cases hc : cur.contains s with
  | true =>
    have HC := Lib.hid hc
    clear hc
    go_wp2_with fail
    go_ret
    exact ⟨by rw [HC.out]; rfl, g', X.out⟩
  | false =>
    have HC := Lib.hid hc
    clear hc
    go_wp2_with fail
    go_ret
    exact ⟨by rw [HC.out]; rfl, g', X.out⟩

set_option maxRecDepth 100000 in
set_option maxHeartbeats 4000000 in
/-- Is a part one that is not fine? -/
theorem part_one {w : World} {B kb mm kk : Nat} {f : Nd.Fn} {a1 a2 : Option Addr} {c1 c2 : Nat} {many : Tx → Option Nat} (hB : B ≤ w.heap.size) (h1 : TextsIn w (· < B) false (.slice a1 f.args.length c1) f.args) (h2 : Nodes w (· < B) false (.slice a2 f.body.len c2) f.body)
    (hsz : f.args.length + f.body.flat.length ≤ 2000000) (hk : w.cell? ⟨kb, 0, none⟩ = some (.map (some mm))) (hM : MapS Tryz.prog 9 w mm kk (fun s => (many s).map fun n : Nat => .int .i64 (n : Int))) :
    Calls Tryz.prog 39 #[.agg #[.string (bs f.name), .slice a1 f.args.length c1, .slice a2 f.body.len c2], .pointer (some ⟨kb, 0, none⟩)] w fun e w' => e = .returned (.bool (!fineF many f.args f.body)) ∧ Below w.heap.size w w' := by
  have hA := Below.alloc (Below.refl w.heap.size w) (Nat.le_refl _) (.cells #[.string (bs f.name), .slice a1 f.args.length c1, .slice a2 f.body.len c2] 57)
  have hk' := (World.cell?_of_block (hA.block kb (World.block_lt_of_cell? w _ hk))).trans hk
  have HF := Lib.hid (fine_t (fname := f.name) (Nat.le_trans hB hA.size) (h1.below (hA.mono hB)) (h2.below (hA.mono hB)) hsz (hM.frame (hA.block mm hM.lt)))
  have HA := Lib.hid hA
  clear hA h1 h2 hsz hM hB
  go_enter Tryz.func39, Tryz.ntmps39
  go_wp2_with fail
  refine HF.out.mono ?_
  rintro e w1 ⟨rfl, hb⟩
  have K := Lib.hid (HA.out.trans (hb.mono HA.out.size))
  clear hb
  cases hb : fineF many f.args f.body with
  | true =>
    have HC := Lib.hid hb
    clear hb
    go_wp2_with fail
    go_ret
    exact ⟨by rw [HC.out]; rfl, K.out⟩
  | false =>
    have HC := Lib.hid hb
    clear hb
    go_wp2_with fail
    go_ret
    exact ⟨by rw [HC.out]; rfl, K.out⟩
end Go.Proofs.YtmkhfonafcikdaaGreatDoor
