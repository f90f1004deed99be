/- The statement Rows.ScopesApartUptoCardSaid: the law ScopesApart, of every input of bulk at most 1048576; the law's walk, lifted to the given row; the row's tie closes the card. -/
import Derived.Test.YtmkhfonafcikdaaGreatDoorScApartLU
import Derived.Test.YtmkhfonafcikdaaGreatDoorTrB3
import Derived.Test.YtmkhfonafcikdaaGreatDoorScBulk2U
import Derived.Test.YtmkhfonafcikdaaGreatDoorCards
import Derived.Test.YtmkhfonafcikdaaGreatDoorTie
import Derived.SizedLaws
import Derived.ChangeOld
import Derived.ShutString
import Derived.Lay
import Derived.MakeChecks
import Derived.Handed
import Derived.LaidOnce
import Derived.SevenTiedAt
import Derived.Deep.DeepHandedRow
namespace Go.Proofs.YtmkhfonafcikdaaGreatDoor.scopesApartUptoLift
open Go.ChangeShapes Go.WideShapes Go.ChangeAt Go.RowKit Go.My Go.Nd
open Go.ChangeMaps (open_string shut_string)
set_option linter.unusedVariables false
theorem own : ownKnob Tryz.prog.godebug = none := by kernel_rfl
theorem laidOut : laidOutB Tryz.prog = true := by kernel_rfl
theorem reads (os : Os) {H : Type} (enc : TypeId × Value → H) : ∃ places, DataW.whole enc Tryz.prog ((World.laidAll Tryz.prog os Rows.scopesApartUptoRow.laid).forCall (fun _ _ => 0) ⟨#[], #[.agg #[.slice none 0 0, .slice none 0 0]], []⟩).memory Tryz.f6.params.toList Rows.scopesApartSpec.vars false #[(.agg #[.slice none 0 0, .slice none 0 0] : Value)].toList 8 = some ([.agg [.nil, .nil]], [], places) :=
  ⟨[], by kernel_rfl⟩
set_option maxRecDepth 100000 in
theorem lifted (os : Os) (started : os.Started) (H : Type) (enc : TypeId × Value → H) (F : Stop.Interp) :
    ReturnsInHanded {} Tryz.checked os 6 .any ((Rows.OpenSpec.upto Rows.scopesApartSpec).preRow enc Tryz.prog Tryz.f6 Rows.scopesApartUptoRow.domain false Rows.scopesApartUptoRow.laid) (((Rows.OpenSpec.upto Rows.scopesApartSpec).at F).post enc Tryz.prog Tryz.f6 false true false false) := by
  obtain ⟨places, hx⟩ := reads os enc
  refine returnsInHanded_of_row (C := Tryz.checked) (s := Rows.OpenSpec.upto Rows.scopesApartSpec) own started (by kernel_rfl) Tryz.func6
    (witness_row_at (enc := enc) (C := Tryz.checked) false (World.laidAll Tryz.prog os Rows.scopesApartUptoRow.laid) #[.agg #[.slice none 0 0, .slice none 0 0]] (World.laidAll_os _ _ _) (by kernel_rfl) (by kernel_rfl) (by kernel_rfl)
      (OpenSpec.preRow_of_cond 8 hx (by kernel_rfl) (fun k hk => by cases hk; kernel_rfl) (by kernel_rfl)
        (by rw [MakeChecks.laidMetH_plain _ _ _ (by kernel_rfl)]; exact laidMet_laidAll _ (by kernel_rfl) (by kernel_rfl)))) ?_
  intro W base args ds gs before hval0 hW _ hcond hsz hL _ _
  have hval : ∀ (j : Nat) t v, Tryz.f6.params[j]? = some t → args[j]? = some v → Value.okWide Tryz.prog W .any base t v := hval0
  have hk := hcond _ rfl
  have hW' := hW
  obtain ⟨p, q, hA0, hV, rfl, hfz, hnd⟩ := hW
  have hA : DataW.TrodAll enc Tryz.prog W 0 (fun _ => true) true Tryz.f6.params.toList args.toList ds p := hA0
  rw [Tryz.params6] at hA hval
  obtain ⟨v0, vs0, d0, ds0, p0, q0, hargs, rfl, rfl, h0, r0⟩ := trodAll_cons hA
  obtain ⟨rfl, rfl, rfl⟩ := trodAll_nil r0
  obtain rfl : args = #[v0] := by cases args; simp_all
  obtain ⟨rfl, rfl⟩ := trodVars_none hV
  have hB := of_decide_eq_true hk
  simp [Rows.uptoBulkAll] at hB
  have k0 := h0
  have lt0 : ∀ x ∈ p0, x.block < W.heap.size := by obtain ⟨m, hm⟩ := k0; exact DataW.trod_lt m _ _ _ hm
  have hlight0 : Light Tryz.prog 25 d0 := light_of_all _ _ _ _ rfl hsz 0 _ _ rfl rfl
  obtain ⟨c0, c1, y0, y1, mm, rfl, rfl, rfl, hy0, hy1⟩ := Go.Joins.open_agg2 Tryz.underlying25 (by kernel_rfl) cellsProg (hval 0 25 v0 rfl rfl) h0
  have hf := hlight0.fields Tryz.underlying25
  have z0 : ∀ n c, c0 = .slice none n c → c = 0 := fun n c e => by
    subst e
    rcases DataW.trod_slice fnTypes.l hy0 with ⟨hv, _⟩ | ⟨_, _, _, _, _, _, _, hv, _⟩
    · simp at hv; exact hv.2
    · simp at hv
  have z1 : ∀ n c, c1 = .slice none n c → c = 0 := fun n c e => by
    subst e
    rcases DataW.trod_slice nodeTypes.l hy1 with ⟨hv, _⟩ | ⟨_, _, _, _, _, _, _, hv, _⟩
    · simp at hv; exact hv.2
    · simp at hv
  obtain ⟨pf, wf, bf⟩ := funcs_of_trodV fnTypes hy0 (hf 0 22 _ rfl rfl)
  obtain ⟨pb, wb, bb⟩ := nodes_of_trodV nodeTypes mm c1 y1 hy1 (hf 1 23 _ rfl rfl)
  have bp : psz2 ⟨pf, pb⟩ ≤ 1048576 := by have h := hB; simp only [Rows.uptoBulk, Rows.uptoBulkAll] at h; unfold psz2; simp only; omega
  clear hA0 hval0 hsz hL
  simp only [List.append_nil] at hW'
  refine (apart_any W c0 c1 ⟨pf, pb⟩ wf wb z0 z1 bp).mono fun e W' ⟨he, bel⟩ => ?_
  subst he
  exact ⟨_, rfl, _, _, _, [], _, [], hW', trodAll_mk1 (shut_bool Tryz.underlying4 _), (trodAll_cons_mk (Below.trod laidOut (by kernel_rfl) (of_decide_eq_true (by kernel_rfl)) k0 bel lt0) trodAll_mk0), rfl, bel.frame _, fun h => by cases h⟩
theorem said : Rows.ScopesApartUptoSaid :=
  OpenClaim.holds_of_cond 6 Tryz.f6 rfl rfl rfl rfl rfl rfl rfl ⟨rfl, rfl, rfl, rfl, rfl⟩ rfl rfl rfl rfl rfl (by kernel_rfl) Tryz.func6 (by kernel_rfl)
    (of_decide_eq_true (by kernel_rfl)) (by unfold Func.isWrapper; first | (rw [if_pos (by decide +kernel)]; kernel_rfl) | (rw [if_neg (by decide +kernel)]; exact ⟨rfl, rfl⟩))
    (fun os started H enc _ F => by rw [OpenClaim.pre_eq_preRow]; exact lifted os started H enc F)
theorem holds : Rows.ScopesApartUptoCardSaid :=
  Claim7.holds_tied_plain_at .later [] _ _ _ _ said (fun _ h => by cases h) (by kernel_rfl) (fun _ h => by cases h) scopesApartUpto_row_tie rfl ⟨rfl, rfl⟩ (by kernel_rfl) rfl
    (fun f fn hf hfn => by
      obtain rfl : f = 6 := Option.some.inj ((show Tryz.prog.funcNamed "reckoner/reckonerlaw11.ScopesApart" = some 6 by kernel_rfl).symm.trans hf) |>.symm
      obtain rfl : fn = Tryz.f6 := (Option.some.inj (Tryz.func6.symm.trans hfn)).symm
      exact ⟨by kernel_rfl, fun j t ht => by
        rw [Tryz.params6] at ht
        have hm : t ∈ [25] := by simpa using Array.mem_of_getElem? ht
        have hall : ([25].all fun u => !Tryz.prog.wantsStandIn u) = true := by kernel_rfl
        exact (show Tryz.prog.wantsStandIn t = false by simpa using List.all_eq_true.1 hall t hm)⟩)
    (by kernel_rfl)
#print axioms holds
end Go.Proofs.YtmkhfonafcikdaaGreatDoor.scopesApartUptoLift
