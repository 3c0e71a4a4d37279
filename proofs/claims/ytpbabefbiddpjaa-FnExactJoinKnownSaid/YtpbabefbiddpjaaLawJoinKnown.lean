/- 'FnExactJoinKnown' of the program: for every input the law returns true, and its arguments read behind the call as before. Conditions: none beyond the row's own (arguments that can be read as data). -/
import Derived.Test.YtpbabefbiddpjaaRows
import Derived.Test.YtpbabefbiddpjaaMKinds
import Derived.Test.YtpbabefbiddpjaaPureJoinKnown
namespace Go.Proofs.Ytpbabefbiddpjaa.fnExactJoinKnown
open Go.ChangeShapes Go.WideShapes Go.ChangeAt Go.RowKit Go.Proofs.Ytpbabefbiddpjaa.MBase Go.Proofs.Ytpbabefbiddpjaa.MKinds Go.Proofs.YtpbabefbiddpjaaW.PrintWords
open Go.ChangeMaps (open_string shut_string)
set_option linter.unusedVariables false
theorem own : ownKnob Try.prog.godebug = none := by kernel_rfl
set_option maxRecDepth 100000 in
theorem lifted (os : Os) (started : os.Started) (H : Type) (enc : TypeId × Value → H) :
    ReturnsInHanded {} Try.checked os 6 .any (Rows.fnExactJoinKnownSpec.pre6 enc Try.prog Try.f6 Rows.fnExactJoinKnownRow.domain false) (Rows.fnExactJoinKnownSpec.post enc Try.prog Try.f6 false true false false) := by
  refine returnsInHanded_of_change_sized (C := Try.checked) own started (by kernel_rfl) Try.func6
    (ChangeSpec.witness6 (enc := enc) (C := Try.checked) false ⟨#[], #[.agg #[.int .i64 0, .int .i64 0], .agg #[.int .i64 0, .int .i64 0]], []⟩ 8 (by kernel_rfl) (by kernel_rfl) (by kernel_rfl) (by kernel_rfl)) ?_
  intro W base args ds gs before hval0 hW hcnd hsz0 _
  have hval : ∀ (j : Nat) t v, Try.f6.params[j]? = some t → args[j]? = some v → Value.okWide Try.prog W .any base t v := hval0
  have hW' := hW
  obtain ⟨p, q, hA0, hV, rfl, hfz, hnd⟩ := hW
  have hA : DataW.TrodAll enc Try.prog W 0 (fun _ => true) true Try.f6.params.toList args.toList ds p := hA0
  have hlt : ∀ x ∈ p, x.block < W.heap.size := fun x hx => hW'.lt x (List.mem_append_left _ hx)
  rw [Try.params6] at hA hval
  obtain ⟨v0, vs0, d0, ds0, p0, q0, hargs, rfl, hp0, h0, r0⟩ := trodAll_cons hA
  obtain ⟨v1, vs1, d1, ds1, p1, q1, rfl, rfl, hp1, h1, r1⟩ := trodAll_cons r0
  obtain ⟨rfl, rfl, hpe⟩ := trodAll_nil r1
  obtain rfl : args = #[v0, v1] := by cases args; simp_all
  obtain ⟨rfl, rfl⟩ := trodVars_none hV
  obtain ⟨x0, rfl, w0⟩ := known_arg (hval 0 24 v0 rfl rfl) h0
  obtain ⟨x1, rfl, w1⟩ := known_arg (hval 1 24 v1 rfl rfl) h1
  clear hval0 hsz0
  refine (PureOps.joinKnown_walk x0 w0 x1 w1 W).mono fun e W' ⟨he, bel⟩ => ?_
  subst he
  exact ⟨_, rfl, _, _, _, [], _, [], hW', trodAll_mk1 (shut_bool Try.underlying4 _), below_trodAll Try.laidOut bel (by kernel_rfl) hA0 hlt, rfl, bel.frame _, fun h => by cases h⟩
theorem over : Rows.fnExactJoinKnownRow.holds Try.pinned (OpenSpec.ofChange Rows.fnExactJoinKnownSpec) :=
  OpenClaim.holds_of_wide 6 Try.f6 rfl rfl rfl rfl rfl rfl rfl ⟨rfl, rfl, rfl, rfl, rfl⟩ rfl rfl rfl rfl rfl (by kernel_rfl) Try.func6 (by kernel_rfl)
    (of_decide_eq_true (by kernel_rfl)) (by unfold Func.isWrapper; first | (rw [if_pos (by decide +kernel)]; kernel_rfl) | (rw [if_neg (by decide +kernel)]; exact ⟨rfl, rfl⟩))
    (fun os started H enc _ => lifted os started H enc)
theorem proved : Rows.FnExactJoinKnownSaid := over
#print axioms proved
end Go.Proofs.Ytpbabefbiddpjaa.fnExactJoinKnown
namespace Go.Proofs.Ytpbabefbiddpjaa
/-- The row, under a short name, for the claim. -/
theorem fnExactJoinKnown_holds : Rows.FnExactJoinKnownSaid := fnExactJoinKnown.proved
end Go.Proofs.Ytpbabefbiddpjaa
