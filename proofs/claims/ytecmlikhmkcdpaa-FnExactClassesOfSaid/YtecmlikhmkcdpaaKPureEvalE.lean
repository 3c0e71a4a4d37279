/- The value of an expression: one answer of both sides. Plain. -/
import Derived.Test.YtecmlikhmkcdpaaKPureIsExpr0
import Derived.Test.YtecmlikhmkcdpaaKPureValues
import Derived.Test.YtecmlikhmkcdpaaILawsEqNode
namespace Go.Proofs.Ytecmlikhmkcdpaa.PureOps
open Go.RowKit Go.Proofs.Ytecmlikhmkcdpaa.I Go.Proofs.YtecmlikhmkcdpaaW.PrintWords Go.Proofs.YtecmlikhmkcdpaaW.PrintLast Go.Proofs.YtecmlikhmkcdpaaW.PrintMore
set_option linter.unusedVariables false
/-- The value of an expression. -/
def evalE (xs : List INode) (x y : Int) : Int := rd (vals xs x y) ((xs.length - 1 : Nat) : Int)
theorem eval_f (k : Nat) (xs : List INode) (hE : isE xs = true) {x y : Int} (hx : word x = true) (hy : word y = true) (hk : 100 < k) :
    spec_exAt.f k xs x y = some (evalE xs x y) ∧ impl_eval.f k xs x y = some (evalE xs x y) := by
  obtain ⟨h1, h2, h3, h4⟩ := values_f k xs hE hx hy hk
  obtain ⟨q1, q2, _⟩ := isE_true hE
  have hw : wrap64 ((xs.length : Int) - 1) = ((xs.length - 1 : Nat) : Int) := by rw [wrap64_small (by omega) (by omega)]; omega
  unfold spec_exAt.f impl_eval.f
  simp only [h1, h2, Option.bind_some, hw]
  rw [if_pos (by omega), if_pos (by omega)]
  exact ⟨rfl, rfl⟩
end Go.Proofs.Ytecmlikhmkcdpaa.PureOps
