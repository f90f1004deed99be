/- The statement ScopesCalls: the memory of its loop. -/
import Derived.Test.YtmkhfonafcikdaaGreatDoorScLitU
import Derived.Test.YtmkhfonafcikdaaGreatDoorScTwiceU
namespace Go.Proofs.YtmkhfonafcikdaaGreatDoor
open Go.RowKit Go.My Go.Nd


/-- A function, a call of it, a call of what is in the library: so many arguments, so many things. -/
structure ClSt (w0 W : World) (g : Tags) (fb cb lb : Nat) (nm : Tx) (va vc vl : Value) (a b : Nat) : Prop where
  since : Since w0 W g
  fbox : Blk W g fb 770 (.cells #[.string ⟨#[102]⟩, va, .slice none 0 0] 57 (0, 0))
  cbox : Blk W g cb 771 (.cells #[.int .u8 4, .string ⟨#[102]⟩, vc, .slice none 0 0, .slice none 0 0] 61 (0, 0))
  lbox : Blk W g lb 772 (.cells #[.int .u8 4, .string (tx nm), vl, .slice none 0 0, .slice none 0 0] 61 (0, 0))
  args : Owns W g 773 9 1 va a (strCells (args6.take a))
  call : Owns W g 774 61 5 vc b (elCells (List.replicate b (leafEl 1 [49])))
  lib : Owns W g 775 61 5 vl b (elCells (List.replicate b (leafEl 2 [120])))
theorem ClSt.turn {w0 W W' : World} {g g' : Tags} {fb cb lb : Nat} {nm : Tx} {va vc vl : Value} {a b : Nat} {T : List Nat} (h : ClSt w0 W g fb cb lb nm va vc vl a b) (T' : Turn W g W' g' T) (hT : ∀ t ∈ [0, 770, 771, 772, 773, 774, 775], t ∉ T) : ClSt w0 W' g' fb cb lb nm va vc vl a b :=
  ⟨h.since.turn T' (hT _ (by simp)), h.fbox.turn T' (hT _ (by simp)), h.cbox.turn T' (hT _ (by simp)), h.lbox.turn T' (hT _ (by simp)), h.args.turn T' (hT _ (by simp)), h.call.turn T' (hT _ (by simp)), h.lib.turn T' (hT _ (by simp))⟩

/-- A store into one of three boxes. -/
theorem blk_store {W : World} {g : Tags} {b t : Nat} {cs : Array Value} {T : TypeId} (h : Blk W g b t (.cells cs T (0, 0))) (i : Nat) (v : Value) : Turn W g (W.setCell ⟨b, i, none⟩ v) g [t] ∧ Blk (W.setCell ⟨b, i, none⟩ v) g b t (.cells (cs.setIfInBounds i v) T (0, 0)) := by
  have p := Put.one h.1 i v
  have T := Turn.setCell W g ⟨b, i, none⟩ v p.size p.os p.tape p.output
  rw [show g (Addr.block ⟨b, i, none⟩) = t from h.2] at T
  exact ⟨T, p.row, h.2⟩

theorem cl_arg {w0 W W5 : World} {g g5 : Tags} {fb cb lb : Nat} {nm : Tx} {va vc vl : Value} {a b : Nat} {ao : Option Addr} {cap : Nat} (h : ClSt w0 W g fb cb lb nm va vc vl a b) (ha : a < 6) (T : Turn W g W5 g5 [773])
    (hO : Owns W5 g5 773 9 1 (.slice ao (a + 1) cap) (a + 1) (strCells (args6.take a) ++ [.string (tx (args6[a]'ha))])) : ClSt w0 (W5.setCell ⟨fb, 1, none⟩ (.slice ao (a + 1) cap)) g5 fb cb lb nm (.slice ao (a + 1) cap) vc vl (a + 1) b := by
  obtain ⟨TS, hb⟩ := blk_store (h.fbox.turn T (by simp)) 1 (.slice ao (a + 1) cap)
  have TT := T.trans TS (V := [773, 770]) (by simp) (by simp)
  refine ⟨h.since.turn TT (by simp), by simpa using hb, h.cbox.turn TT (by simp), h.lbox.turn TT (by simp), ?_, h.call.turn TT (by simp), h.lib.turn TT (by simp)⟩
  have e : strCells (args6.take (a + 1)) = strCells (args6.take a) ++ [.string (tx (args6[a]'ha))] := by
    unfold strCells
    rw [List.take_succ_eq_append_getElem ha, List.map_append]; rfl
  rw [e]
  exact hO.turn TS (by simp)
theorem rep_snoc (n k : Nat) (t : Tx) : elCells (List.replicate (n + 1) (leafEl k t)) = elCells (List.replicate n (leafEl k t)) ++ [.int .u8 (k : Int), .string (tx t), .slice none 0 0, .slice none 0 0, .slice none 0 0] := by
  rw [List.replicate_succ', elCells_append]; rfl
theorem cl_call {w0 W W5 : World} {g g5 : Tags} {fb cb lb : Nat} {nm : Tx} {va vc vl : Value} {a b : Nat} {ao : Option Addr} {cap : Nat} (h : ClSt w0 W g fb cb lb nm va vc vl a b) (T : Turn W g W5 g5 [774])
    (hO : Owns W5 g5 774 61 5 (.slice ao (b + 1) cap) (b + 1) (elCells (List.replicate b (leafEl 1 [49])) ++ [.int .u8 1, .string ⟨#[49]⟩, .slice none 0 0, .slice none 0 0, .slice none 0 0])) :
    Turn W g (W5.setCell ⟨cb, 2, none⟩ (.slice ao (b + 1) cap)) g5 [774, 771] ∧ Blk (W5.setCell ⟨cb, 2, none⟩ (.slice ao (b + 1) cap)) g5 cb 771 (.cells #[.int .u8 4, .string ⟨#[102]⟩, .slice ao (b + 1) cap, .slice none 0 0, .slice none 0 0] 61 (0, 0)) ∧ Owns (W5.setCell ⟨cb, 2, none⟩ (.slice ao (b + 1) cap)) g5 774 61 5 (.slice ao (b + 1) cap) (b + 1) (elCells (List.replicate (b + 1) (leafEl 1 [49]))) := by
  obtain ⟨TS, hb⟩ := blk_store (h.cbox.turn T (by simp)) 2 (.slice ao (b + 1) cap)
  have TT := T.trans TS (V := [774, 771]) (by simp) (by simp)
  refine ⟨TT, by simpa using hb, ?_⟩
  rw [rep_snoc]
  exact hO.turn TS (by simp)
theorem cl_lib {w0 W W3 W5 : World} {g g3 g5 : Tags} {fb cb lb : Nat} {nm : Tx} {va vc vc' vl : Value} {a b : Nat} {ao : Option Addr} {cap : Nat} (h : ClSt w0 W g fb cb lb nm va vc vl a b) (T3 : Turn W g W3 g3 [774, 771]) (hc : Blk W3 g3 cb 771 (.cells #[.int .u8 4, .string ⟨#[102]⟩, vc', .slice none 0 0, .slice none 0 0] 61 (0, 0)))
    (hcO : Owns W3 g3 774 61 5 vc' (b + 1) (elCells (List.replicate (b + 1) (leafEl 1 [49])))) (T : Turn W3 g3 W5 g5 [775])
    (hO : Owns W5 g5 775 61 5 (.slice ao (b + 1) cap) (b + 1) (elCells (List.replicate b (leafEl 2 [120])) ++ [.int .u8 2, .string ⟨#[120]⟩, .slice none 0 0, .slice none 0 0, .slice none 0 0])) :
    ClSt w0 (W5.setCell ⟨lb, 2, none⟩ (.slice ao (b + 1) cap)) g5 fb cb lb nm va vc' (.slice ao (b + 1) cap) a (b + 1) := by
  have T1 := T3.trans T (V := [774, 771, 775]) (by simp) (by simp)
  obtain ⟨TS, hb⟩ := blk_store (h.lbox.turn T1 (by simp)) 2 (.slice ao (b + 1) cap)
  have TT := T1.trans TS (V := [774, 771, 775, 772]) (by simp) (by simp)
  refine ⟨h.since.turn TT (by simp), h.fbox.turn TT (by simp), (hc.turn T (by simp)).turn TS (by simp), by simpa using hb, h.args.turn TT (by simp), (hcO.turn T (by simp)).turn TS (by simp), ?_⟩
  rw [rep_snoc]
  exact hO.turn TS (by simp)

theorem cl_start {w : World} (nm : Tx) : ∃ g, ClSt w (((w.alloc (.cells #[.string ⟨#[102]⟩, .slice none 0 0, .slice none 0 0] 57)).alloc (.cells #[.int .u8 4, .string ⟨#[102]⟩, .slice none 0 0, .slice none 0 0, .slice none 0 0] 61)).alloc (.cells #[.int .u8 4, .string (tx nm), .slice none 0 0, .slice none 0 0, .slice none 0 0] 61)) g w.heap.size (w.heap.size + 1) (w.heap.size + 1 + 1) nm (.slice none 0 0) (.slice none 0 0) (.slice none 0 0) 0 0 := by
  have T1 := Turn.alloc w (fun _ => 0) 770 (.cells #[.string ⟨#[102]⟩, .slice none 0 0, .slice none 0 0] 57)
  have B1 := Blk.alloc w (fun _ => 0) 770 (.cells #[.string ⟨#[102]⟩, .slice none 0 0, .slice none 0 0] 57 (0, 0))
  have S1 := (Since.start w).turn T1 (by simp)
  have z1 : (w.alloc (.cells #[.string ⟨#[102]⟩, .slice none 0 0, .slice none 0 0] 57)).heap.size = w.heap.size + 1 := World.size_alloc _ _
  generalize w.alloc (.cells #[.string ⟨#[102]⟩, .slice none 0 0, .slice none 0 0] 57) = w1 at *
  generalize Tags.ext (fun _ => 0) w.heap.size 770 = g1 at *
  have T2 := Turn.alloc w1 g1 771 (.cells #[.int .u8 4, .string ⟨#[102]⟩, .slice none 0 0, .slice none 0 0, .slice none 0 0] 61)
  have B2 := Blk.alloc w1 g1 771 (.cells #[.int .u8 4, .string ⟨#[102]⟩, .slice none 0 0, .slice none 0 0, .slice none 0 0] 61 (0, 0))
  have z2 : (w1.alloc (.cells #[.int .u8 4, .string ⟨#[102]⟩, .slice none 0 0, .slice none 0 0, .slice none 0 0] 61)).heap.size = w.heap.size + 1 + 1 := by rw [World.size_alloc, z1]
  rw [z1] at B2 T2
  generalize w1.alloc (.cells #[.int .u8 4, .string ⟨#[102]⟩, .slice none 0 0, .slice none 0 0, .slice none 0 0] 61) = w2 at *
  generalize Tags.ext g1 (w.heap.size + 1) 771 = g2 at *
  have T3 := Turn.alloc w2 g2 772 (.cells #[.int .u8 4, .string (tx nm), .slice none 0 0, .slice none 0 0, .slice none 0 0] 61)
  have B3 := Blk.alloc w2 g2 772 (.cells #[.int .u8 4, .string (tx nm), .slice none 0 0, .slice none 0 0, .slice none 0 0] 61 (0, 0))
  rw [z2] at B3 T3
  exact ⟨_, (S1.turn T2 (by simp)).turn T3 (by simp), (B1.turn T2 (by simp)).turn T3 (by simp), B2.turn T3 (by simp), B3, Owns.nil _ _ _ _ _, Owns.nil _ _ _ _ _, Owns.nil _ _ _ _ _⟩
end Go.Proofs.YtmkhfonafcikdaaGreatDoor
