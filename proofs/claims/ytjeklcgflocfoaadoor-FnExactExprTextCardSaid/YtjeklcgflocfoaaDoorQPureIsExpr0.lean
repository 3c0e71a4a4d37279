/- What a slice of nodes that came in is known to be. -/
import Derived.Test.YtjeklcgflocfoaaDoorQPureIsE
import Derived.Test.YtjeklcgflocfoaaDoorJMKinds
namespace Go.Proofs.YtjeklcgflocfoaaDoor.PureOps
open Go.RowKit Go.Proofs.YtjeklcgflocfoaaDoor.J Go.Proofs.YtjeklcgflocfoaaDoorW.PrintWords Go.Proofs.YtjeklcgflocfoaaDoorW.PrintLast Go.Proofs.YtjeklcgflocfoaaDoorW.PrintMore Go.Proofs.YtjeklcgflocfoaaDoor.MKinds
set_option linter.unusedVariables false
theorem nodes_ok {xs : List LNode} (h : ∀ x ∈ xs, nodeSOk x) : ∀ x ∈ xs, x.f0.size ≤ 9223372036854775807 := fun x hx => by
  have := (h x hx).1
  unfold maxLen at this
  exact this
theorem len_ok {n : Nat} (h : n ≤ maxLen) : n ≤ 9223372036854775807 := by unfold maxLen at h; exact h
end Go.Proofs.YtjeklcgflocfoaaDoor.PureOps
