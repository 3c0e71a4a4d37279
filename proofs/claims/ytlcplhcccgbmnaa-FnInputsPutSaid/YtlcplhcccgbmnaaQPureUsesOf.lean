/- UsesOf of the program and of the reference agree for all arguments. -/
import Derived.Test.YtlcplhcccgbmnaaQPureIsExpr0
import Derived.Test.YtlcplhcccgbmnaaBLawsFnInputsPut
namespace Go.Proofs.Ytlcplhcccgbmnaa.PureOps
open Go.RowKit Go.Proofs.Ytlcplhcccgbmnaa.B Go.Proofs.YtlcplhcccgbmnaaW.PrintWords Go.Proofs.YtlcplhcccgbmnaaW.PrintLast Go.Proofs.YtlcplhcccgbmnaaW.PrintMore
set_option linter.unusedVariables false
theorem usesOf_same (k : Nat) (xs : List INode) (hk : 4 * xs.length + 60 < k) (hn : xs.length ≤ 1048576) :
    spec_UsesOf.f k xs = some (if isE xs = true then (usesL xs, true) else ([], false)) ∧ impl_UsesOf.f k xs = some (if isE xs = true then (usesL xs, true) else ([], false)) := by
  unfold spec_UsesOf.f impl_UsesOf.f
  rw [good_f k xs hk hn, isExpr_f k xs hk hn, Option.bind_some, Option.bind_some]
  by_cases hE : isE xs = true
  · obtain ⟨q1, q2, q3⟩ := isE_true hE
    rw [if_pos hE, if_pos hE, if_pos hE, (uses_f k xs q3 hn (by omega)).1, (uses_f k xs q3 hn (by omega)).2]
    exact ⟨rfl, rfl⟩
  · rw [if_neg hE, if_neg hE, if_neg hE]
    exact ⟨rfl, rfl⟩
end Go.Proofs.Ytlcplhcccgbmnaa.PureOps
