/- CountOps of the program and of the reference agree for all arguments. -/
import Derived.Test.YtlcplhcccgbmnaaUPureIsExpr0
import Derived.Test.YtlcplhcccgbmnaaDAll
namespace Go.Proofs.Ytlcplhcccgbmnaa.PureOps
open Go.RowKit Go.Proofs.Ytlcplhcccgbmnaa.D Go.Proofs.YtlcplhcccgbmnaaW.PrintWords Go.Proofs.YtlcplhcccgbmnaaW.PrintLast Go.Proofs.YtlcplhcccgbmnaaW.PrintMore
set_option linter.unusedVariables false
theorem parts_pos (o : List UInt8) (a b : Int) : decide (((parts o a b).length : Int) > 0) = decide (ops o > 0) := by
 unfold parts
 by_cases h1 : one o = true
 ·rw [if_pos h1, ops_one.2 h1]; rfl
 ·rw [if_neg h1]
  by_cases h2 : two o = true
  ·rw [if_pos h2, ops_two.2 h2]; rfl
  ·rw [if_neg h2]
   have := (ops_lt o).2 ⟨by simpa using h1, by simpa using h2⟩
   rw [decide_eq_false (show ¬ ops o > 0 by omega)]; rfl
end Go.Proofs.Ytlcplhcccgbmnaa.PureOps
