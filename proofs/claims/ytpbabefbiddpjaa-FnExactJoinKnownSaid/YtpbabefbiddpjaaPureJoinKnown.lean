/- JoinKnown of the program and of the reference agree for all arguments. -/
import Derived.Test.YtpbabefbiddpjaaFLawsFnExactJoinKnown
import Derived.Test.YtpbabefbiddpjaaMKinds
namespace Go.Proofs.Ytpbabefbiddpjaa.PureOps
open Go.RowKit Go.Proofs.Ytpbabefbiddpjaa.F Go.Proofs.YtpbabefbiddpjaaW.PrintWords Go.Proofs.YtpbabefbiddpjaaW.PrintLast Go.Proofs.YtpbabefbiddpjaaW.PrintMore Go.Proofs.Ytpbabefbiddpjaa.MKinds
set_option linter.unusedVariables false
theorem joinKnown_true (a b c d : Int) : laws_FnExactJoinKnown.f a b c d = some true := by
  have hk : ∀ x y, spec_eqKnown.f x y = impl_IsKnown.f x y := by
    intro x y
    unfold spec_eqKnown.f impl_IsKnown.f spec_exWord.f impl_isWord.f spec_l1In.f impl_within.f
    simp only [ge_iff_le]
  have hs : ∀ x y, ∃ r, impl_IsKnown.f x y = some r := by
    intro x y
    unfold impl_IsKnown.f impl_isWord.f impl_within.f
    by_cases h1 : 0 ≤ x <;> by_cases h2 : 0 ≤ y <;> by_cases h3 : x ≤ 63 <;> by_cases h4 : y ≤ 63 <;> simp [h1, h2, h3, h4]
  unfold laws_FnExactJoinKnown.f laws_toKnown.f spec_JoinKnown.f impl_JoinKnown.f laws_eqKnown.f
  simp only [Option.bind_some, hk]
  obtain ⟨p, hp⟩ := hs a b
  obtain ⟨q, hq⟩ := hs c d
  rw [hp, hq]
  cases p <;> cases q <;> simp
theorem joinKnown_walk (x : Int × Int) (_ : knownOk x) (y : Int × Int) (_ : knownOk y) (W : World) :
    Calls Try.prog 6 #[.agg #[.int .i64 x.1, .int .i64 x.2], .agg #[.int .i64 y.1, .int .i64 y.2]] W fun e w' => e = .returned (.bool true) ∧ Below W.heap.size W w' :=
  laws_FnExactJoinKnown.calls x.1 x.2 y.1 y.2 true W (joinKnown_true _ _ _ _) rfl
end Go.Proofs.Ytpbabefbiddpjaa.PureOps
