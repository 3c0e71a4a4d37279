/- TableOf of the program and of the reference agree for all arguments. -/
import Derived.Test.YtlcplhcccgbmnaaRPureTable
import Derived.Test.YtlcplhcccgbmnaaCLawsFnValuesOfNodes
namespace Go.Proofs.Ytlcplhcccgbmnaa.PureOps
open Go.RowKit Go.Proofs.Ytlcplhcccgbmnaa.C Go.Proofs.YtlcplhcccgbmnaaW.PrintWords Go.Proofs.YtlcplhcccgbmnaaW.PrintLast Go.Proofs.YtlcplhcccgbmnaaW.PrintMore
set_option linter.unusedVariables false
set_option linter.unusedSimpArgs false
open Classical in
noncomputable def tableOf_res (xs : List INode) : List Int × Bool := if isE xs = true then (tableL xs, true) else ([], false)
theorem tableOf_small (xs : List INode) : (tableOf_res xs).1.length ≤ 5000 := by
  unfold tableOf_res
  split
  · show (tableL xs).length ≤ 5000
    rw [tableL_length]; omega
  · simp
theorem tableOf_same (k : Nat) (xs : List INode) (hk : 4 * xs.length + 5960 < k) (hn : xs.length ≤ 1048576) :
    spec_TableOf.f k xs = some (tableOf_res xs) ∧ impl_TableOf.f k xs = some (tableOf_res xs) := by
  unfold spec_TableOf.f impl_TableOf.f tableOf_res
  rw [good_f k xs (by omega) hn, isExpr_f k xs (by omega) hn, Option.bind_some, Option.bind_some]
  by_cases hE : isE xs = true
  · rw [if_pos hE, if_pos hE, if_pos hE, (table_f k xs hE (by omega)).1, (table_f k xs hE (by omega)).2]
    exact ⟨rfl, rfl⟩
  · rw [if_neg hE, if_neg hE, if_neg hE]
    exact ⟨rfl, rfl⟩
end Go.Proofs.Ytlcplhcccgbmnaa.PureOps
