/- 'FnExactClassesOf' of the program: for every input the law returns true, and its arguments read behind the call as before. Conditions: none beyond the row's own (arguments that can be read as data). -/
import Derived.Test.YtecmlikhmkcdpaaRows
import Derived.Test.YtecmlikhmkcdpaaIMKinds
import Derived.Test.YtecmlikhmkcdpaaKPureClassesOf
import Derived.Test.YtecmlikhmkcdpaaMHead
namespace Go.Proofs.Ytecmlikhmkcdpaa.fnExactClassesOf
open Go.ChangeShapes Go.WideShapes Go.ChangeAt Go.RowKit Go.Proofs.Ytecmlikhmkcdpaa.MBase Go.Proofs.Ytecmlikhmkcdpaa.MKinds Go.Proofs.YtecmlikhmkcdpaaW.PrintWords
open Go.ChangeMaps (open_string shut_string)
set_option linter.unusedVariables false
theorem own : ownKnob Try.prog.godebug = none := by kernel_rfl
set_option maxRecDepth 100000 in
theorem lifted (os : Os) (started : os.Started) (H : Type) (enc : TypeId × Value → H) :
    ReturnsInHanded {} Try.checked os 8 .any (Rows.fnExactClassesOfSpec.pre6 enc Try.prog Try.f8 Rows.fnExactClassesOfRow.domain false) (Rows.fnExactClassesOfSpec.post enc Try.prog Try.f8 false true false false) := by
  refine returnsInHanded_of_change_sized (C := Try.checked) own started (by kernel_rfl) Try.func8
    (ChangeSpec.witness6 (enc := enc) (C := Try.checked) false ⟨#[], #[.slice none 0 0], []⟩ 8 (by kernel_rfl) (by kernel_rfl) (by kernel_rfl) (by kernel_rfl)) ?_
  intro W base args ds gs before hval0 hW hcnd hsz0 _
  have hval : ∀ (j : Nat) t v, Try.f8.params[j]? = some t → args[j]? = some v → Value.okWide Try.prog W .any base t v := hval0
  have hW' := hW
  obtain ⟨p, q, hA0, hV, rfl, hfz, hnd⟩ := hW
  have hA : DataW.TrodAll enc Try.prog W 0 (fun _ => true) true Try.f8.params.toList args.toList ds p := hA0
  have hlt : ∀ x ∈ p, x.block < W.heap.size := fun x hx => hW'.lt x (List.mem_append_left _ hx)
  rw [Try.params8] at hA hval
  obtain ⟨v0, vs0, d0, ds0, p0, q0, hargs, rfl, hp0, h0, r0⟩ := trodAll_cons hA
  obtain ⟨rfl, rfl, hpe⟩ := trodAll_nil r0
  obtain rfl : args = #[v0] := by cases args; simp_all
  obtain ⟨rfl, rfl⟩ := trodVars_none hV
  obtain ⟨A0, c0, x0, rfl, l0, k0, m0, w0⟩ := nodess_arg (hval 0 50 v0 rfl rfl) h0
  clear hval0 hsz0
  refine (PureOps.classesOf_walk (W := W) A0 c0 x0 l0 k0 m0 w0).mono fun e W' ⟨he, bel⟩ => ?_
  subst he
  exact ⟨_, rfl, _, _, _, [], _, [], hW', trodAll_mk1 (shut_bool Try.underlying4 _), below_trodAll Try.laidOut bel (by kernel_rfl) hA0 hlt, rfl, bel.frame _, fun h => by cases h⟩
theorem joined : joinedFacts Try.prog 8 Try.f8 Rows.fnExactClassesOfSpec Rows.fnExactClassesOfRow = true := by
  unfold joinedFacts
  repeat' (with_reducible refine and_true_intro ?_ ?_)
  all_goals first | with_reducible exact head_enter | with_reducible exact lifted_ok rfl | with_reducible exact make_ok rfl | kernel_rfl
theorem over : Rows.fnExactClassesOfRow.holds Try.pinned (OpenSpec.ofChange Rows.fnExactClassesOfSpec) :=
  OpenClaim.holds_of_wide 8 Try.f8 rfl rfl rfl rfl rfl rfl rfl ⟨rfl, rfl, rfl, rfl, rfl⟩ rfl rfl rfl rfl rfl (by kernel_rfl) Try.func8 joined
    (of_decide_eq_true (by kernel_rfl)) (by unfold Func.isWrapper; first | (rw [if_pos (by decide +kernel)]; kernel_rfl) | (rw [if_neg (by decide +kernel)]; exact ⟨rfl, rfl⟩))
    (fun os started H enc _ => lifted os started H enc)
theorem proved : Rows.FnExactClassesOfSaid := over
#print axioms proved
end Go.Proofs.Ytecmlikhmkcdpaa.fnExactClassesOf
namespace Go.Proofs.Ytecmlikhmkcdpaa
/-- The row, under a short name, for the claim. -/
theorem fnExactClassesOf_holds : Rows.FnExactClassesOfSaid := fnExactClassesOf.proved
end Go.Proofs.Ytecmlikhmkcdpaa
