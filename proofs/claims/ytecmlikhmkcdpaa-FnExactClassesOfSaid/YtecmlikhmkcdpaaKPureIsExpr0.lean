/- What a slice of nodes that came in is known to be. -/
import Derived.Test.YtecmlikhmkcdpaaKPureIsE
import Derived.Test.YtecmlikhmkcdpaaIMKinds
namespace Go.Proofs.Ytecmlikhmkcdpaa.PureOps
open Go.RowKit Go.Proofs.Ytecmlikhmkcdpaa.I Go.Proofs.YtecmlikhmkcdpaaW.PrintWords Go.Proofs.YtecmlikhmkcdpaaW.PrintLast Go.Proofs.YtecmlikhmkcdpaaW.PrintMore Go.Proofs.Ytecmlikhmkcdpaa.MKinds
set_option linter.unusedVariables false
theorem nodes_ok {xs : List LNode} (h : ∀ x ∈ xs, nodeSOk x) : ∀ x ∈ xs, x.f0.size ≤ 9223372036854775807 := fun x hx => by
  have := (h x hx).1
  unfold maxLen at this
  exact this
theorem len_ok {n : Nat} (h : n ≤ maxLen) : n ≤ 9223372036854775807 := by unfold maxLen at h; exact h
end Go.Proofs.Ytecmlikhmkcdpaa.PureOps
