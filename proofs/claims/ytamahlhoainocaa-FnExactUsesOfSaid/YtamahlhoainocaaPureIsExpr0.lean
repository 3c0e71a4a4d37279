/- What a slice of nodes that came in is known to be. -/
import Derived.Test.YtamahlhoainocaaPureIsE
import Derived.Test.YtamahlhoainocaaMKinds
namespace Go.Proofs.Ytamahlhoainocaa.PureOps
open Go.RowKit Go.Proofs.Ytamahlhoainocaa.F Go.Proofs.YtamahlhoainocaaW.PrintWords Go.Proofs.YtamahlhoainocaaW.PrintLast Go.Proofs.YtamahlhoainocaaW.PrintMore Go.Proofs.Ytamahlhoainocaa.MKinds
set_option linter.unusedVariables false
theorem nodes_ok {xs : List LNode} (h : ∀ x ∈ xs, nodeSOk x) : ∀ x ∈ xs, x.f0.size ≤ 9223372036854775807 := fun x hx => by
  have := (h x hx).1
  unfold maxLen at this
  exact this
theorem len_ok {n : Nat} (h : n ≤ maxLen) : n ≤ 9223372036854775807 := by unfold maxLen at h; exact h
end Go.Proofs.Ytamahlhoainocaa.PureOps
