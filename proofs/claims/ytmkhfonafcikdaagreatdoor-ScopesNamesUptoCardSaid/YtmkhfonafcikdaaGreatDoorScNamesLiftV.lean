/- The statement Rows.ScopesNamesUptoCardSaid: the law ScopesNames, of every input of bulk at most 1048576; the law's walk, lifted to the given row; the row's tie closes the card. -/
import Derived.Test.YtmkhfonafcikdaaGreatDoorScNamesLV
import Derived.Test.YtmkhfonafcikdaaGreatDoorTrC3
import Derived.Test.YtmkhfonafcikdaaGreatDoorCards
import Derived.Test.YtmkhfonafcikdaaGreatDoorTie
import Derived.SizedLaws
import Derived.ChangeOld
import Derived.ShutString
import Derived.Lay
import Derived.MakeChecks
import Derived.Handed
import Derived.LaidOnce
import Derived.SevenTiedAt
import Derived.Stop.LaidErr
import Derived.Lib.LaidTab
import Derived.Deep.DeepHandedRow
namespace Go.Proofs.YtmkhfonafcikdaaGreatDoor.scopesNamesUptoLift
open Go.ChangeShapes Go.WideShapes Go.ChangeAt Go.RowKit Go.My Go.Nd
open Go.ChangeMaps (open_string shut_string)
set_option linter.unusedVariables false
theorem own : ownKnob Tryz.prog.godebug = none := by kernel_rfl
theorem laidOut : laidOutB Tryz.prog = true := by kernel_rfl
theorem reads (os : Os) {H : Type} (enc : TypeId × Value → H) : ∃ places, DataW.whole enc Tryz.prog ((World.laidAll Tryz.prog os Rows.scopesNamesUptoRow.laid).forCall (fun _ _ => 0) ⟨#[], #[.agg #[.slice none 0 0, .slice none 0 0], .int .i64 0, .string ⟨#[]⟩], []⟩).memory Tryz.f4.params.toList Rows.scopesNamesSpec.vars false #[(.agg #[.slice none 0 0, .slice none 0 0] : Value), (.int .i64 0 : Value), (.string ⟨#[]⟩ : Value)].toList 8 = some ([.agg [.nil, .nil], .lit (.int .i64 0), .lit (.string [])], [], places) :=
  ⟨[], by kernel_rfl⟩
theorem gTab : Tryz.prog.globalNamed "internal/strconv.uint64pow10" = some 1 := by kernel_rfl
theorem gTabType : (Tryz.prog.globals[1]?).map (·.type) = some 247 := by kernel_rfl
theorem cellsT : Tryz.prog.cellsOf 247 = 20 := by kernel_rfl
theorem cellsE : Tryz.prog.cellsOf 238 = 1 := by kernel_rfl
theorem table {W : World} (h : laidMetH Tryz.prog Rows.scopesNamesUptoRow.laid W) : Lib.TabIs Tryz.prog W "internal/strconv.uint64pow10" .u64 Lib.pow10Tab := by
  have h' := h
  rw [MakeChecks.laidMetH_plain _ _ _ (by kernel_rfl)] at h'
  exact Lib.tabIs_of_head gTab gTabType Tryz.underlying247 Tryz.underlying238 cellsE cellsT (laidMet.tail (laidMet.tail h'))
set_option maxRecDepth 100000 in
theorem lifted (os : Os) (started : os.Started) (H : Type) (enc : TypeId × Value → H) (F : Stop.Interp) :
    ReturnsInHanded {} Tryz.checked os 4 .any ((Rows.OpenSpec.upto Rows.scopesNamesSpec).preRow enc Tryz.prog Tryz.f4 Rows.scopesNamesUptoRow.domain false Rows.scopesNamesUptoRow.laid) (((Rows.OpenSpec.upto Rows.scopesNamesSpec).at F).post enc Tryz.prog Tryz.f4 false true false false) := by
  obtain ⟨places, hx⟩ := reads os enc
  refine returnsInHanded_of_row (C := Tryz.checked) (s := Rows.OpenSpec.upto Rows.scopesNamesSpec) own started (by kernel_rfl) Tryz.func4
    (witness_row_at (enc := enc) (C := Tryz.checked) false (World.laidAll Tryz.prog os Rows.scopesNamesUptoRow.laid) #[.agg #[.slice none 0 0, .slice none 0 0], .int .i64 0, .string ⟨#[]⟩] (World.laidAll_os _ _ _) (by kernel_rfl) (by kernel_rfl) (by kernel_rfl)
      (OpenSpec.preRow_of_cond 8 hx (by kernel_rfl) (fun k hk => by cases hk; kernel_rfl) (by kernel_rfl)
        (by rw [MakeChecks.laidMetH_plain _ _ _ (by kernel_rfl)]; exact laidMet_laidAll _ (by kernel_rfl) (by kernel_rfl)))) ?_
  intro W base args ds gs before hval0 hW _ hcond hsz hL _ _
  have hval : ∀ (j : Nat) t v, Tryz.f4.params[j]? = some t → args[j]? = some v → Value.okWide Tryz.prog W .any base t v := hval0
  have hk := hcond _ rfl
  have hW' := hW
  obtain ⟨p, q, hA0, hV, rfl, hfz, hnd⟩ := hW
  have hA : DataW.TrodAll enc Tryz.prog W 0 (fun _ => true) true Tryz.f4.params.toList args.toList ds p := hA0
  rw [Tryz.params4] at hA hval
  obtain ⟨v0, vs0, d0, ds0, p0, q0, hargs, rfl, rfl, h0, r0⟩ := trodAll_cons hA
  obtain ⟨v1, vs1, d1, ds1, p1, q1, rfl, rfl, rfl, h1, r1⟩ := trodAll_cons r0
  obtain ⟨v2, vs2, d2, ds2, p2, q2, rfl, rfl, rfl, h2, r2⟩ := trodAll_cons r1
  obtain ⟨rfl, rfl, rfl⟩ := trodAll_nil r2
  obtain rfl : args = #[v0, v1, v2] := by cases args; simp_all
  obtain ⟨rfl, rfl⟩ := trodVars_none hV
  have hB := of_decide_eq_true hk
  simp [Rows.uptoBulkAll] at hB
  have k0 := h0
  have lt0 : ∀ x ∈ p0, x.block < W.heap.size := by obtain ⟨m, hm⟩ := k0; exact DataW.trod_lt m _ _ _ hm
  have hlight0 : Light Tryz.prog 25 d0 := light_of_all _ _ _ _ rfl hsz 0 _ _ rfl rfl
  obtain ⟨c0, c1, y0, y1, mm, rfl, rfl, rfl, hy0, hy1⟩ := Go.Joins.open_agg2 Tryz.underlying25 (by kernel_rfl) cellsProg (hval 0 25 v0 rfl rfl) h0
  have hf := hlight0.fields Tryz.underlying25
  obtain ⟨pf, wf, bf⟩ := funcs_of_trodU fnTypes hy0 (hf 0 22 _ rfl rfl)
  obtain ⟨pb, wb, bb⟩ := nodes_of_trodU nodeTypes mm c1 y1 hy1 (hf 1 23 _ rfl rfl)
  have bp : psz ⟨pf, pb⟩ ≤ 1048576 := by have h := hB; simp only [Rows.uptoBulk, Rows.uptoBulkAll] at h; unfold psz; simp only; omega
  obtain ⟨a1, rfl, rfl, rfl, w1⟩ := open_int Tryz.underlying3 (hval 1 3 v1 rfl rfl) h1
  obtain ⟨a2, rfl, rfl, rfl, w2⟩ := open_string Tryz.underlying9 (hval 2 9 v2 rfl rfl) h2
  have b2 : a2.size ≤ 1048576 := by have h := hB; simp only [Rows.uptoBulk] at h; have e : a2.data.toList.length = a2.size := rfl; omega
  clear hA0 hval0 hsz
  simp only [List.append_nil] at hW'
  refine (names_all W c0 c1 ⟨pf, pb⟩ wf wb bp a1 w1 a2 b2 (table hL)).mono fun e W' ⟨he, bel⟩ => ?_
  subst he
  exact ⟨_, rfl, _, _, _, [], _, [], hW', trodAll_mk1 (shut_bool Tryz.underlying4 _), (trodAll_cons_mk (Below.trod laidOut (by kernel_rfl) (of_decide_eq_true (by kernel_rfl)) k0 bel lt0) (trodAll_cons_mk (shut_int Tryz.underlying3 w1) (trodAll_cons_mk (shut_string Tryz.underlying9 w2) trodAll_mk0))), rfl, bel.frame _, fun h => by cases h⟩
theorem said : Rows.ScopesNamesUptoSaid :=
  OpenClaim.holds_of_cond 4 Tryz.f4 rfl rfl rfl rfl rfl rfl rfl ⟨rfl, rfl, rfl, rfl, rfl⟩ rfl rfl rfl rfl rfl (by kernel_rfl) Tryz.func4 (by kernel_rfl)
    (of_decide_eq_true (by kernel_rfl)) (by unfold Func.isWrapper; first | (rw [if_pos (by decide +kernel)]; kernel_rfl) | (rw [if_neg (by decide +kernel)]; exact ⟨rfl, rfl⟩))
    (fun os started H enc _ F => by rw [OpenClaim.pre_eq_preRow]; exact lifted os started H enc F)
theorem holds : Rows.ScopesNamesUptoCardSaid :=
  Claim7.holds_tied_plain_at .later [] _ _ _ _ said (fun _ h => by cases h) (by kernel_rfl) (fun _ h => by cases h) scopesNamesUpto_row_tie rfl ⟨rfl, rfl⟩ (by kernel_rfl) rfl
    (fun f fn hf hfn => by
      obtain rfl : f = 4 := Option.some.inj ((show Tryz.prog.funcNamed "reckoner/reckonerlaw11.ScopesNames" = some 4 by kernel_rfl).symm.trans hf) |>.symm
      obtain rfl : fn = Tryz.f4 := (Option.some.inj (Tryz.func4.symm.trans hfn)).symm
      exact ⟨by kernel_rfl, fun j t ht => by
        rw [Tryz.params4] at ht
        have hm : t ∈ [25, 3, 9] := by simpa using Array.mem_of_getElem? ht
        have hall : ([25, 3, 9].all fun u => !Tryz.prog.wantsStandIn u) = true := by kernel_rfl
        exact (show Tryz.prog.wantsStandIn t = false by simpa using List.all_eq_true.1 hall t hm)⟩)
    (by kernel_rfl)
#print axioms holds
end Go.Proofs.YtmkhfonafcikdaaGreatDoor.scopesNamesUptoLift
