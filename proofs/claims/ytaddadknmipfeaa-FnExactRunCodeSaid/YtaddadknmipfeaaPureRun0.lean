/- What a slice of instructions, or of numbers, that came in is known to be; code run, and its answer. -/
import Derived.Test.YtaddadknmipfeaaPureRun
import Derived.Test.YtaddadknmipfeaaPureRegs
import Derived.Test.YtaddadknmipfeaaMKinds
import Derived.Test.YtaddadknmipfeaaFSpecExWord
namespace Go.Proofs.Ytaddadknmipfeaa.PureCd
open Go.RowKit Go.Proofs.Ytaddadknmipfeaa.PureOps Go.Proofs.Ytaddadknmipfeaa.F Go.Proofs.YtaddadknmipfeaaW.PrintWords Go.Proofs.YtaddadknmipfeaaW.PrintLast Go.Proofs.YtaddadknmipfeaaW.PrintMore Go.Proofs.Ytaddadknmipfeaa.MKinds
set_option linter.unusedVariables false
set_option linter.unusedSimpArgs false
theorem instrs_ok {xs : List LInstr} (h : ∀ x ∈ xs, instrSOk x) : ∀ x ∈ xs, x.f0.size ≤ 9223372036854775807 := fun x hx => by
  have := (h x hx).1
  unfold maxLen at this
  exact this
theorem len_ok {n : Nat} (h : n ≤ maxLen) : n ≤ 9223372036854775807 := by unfold maxLen at h; exact h
theorem exWord_f (n : Int) : spec_exWord.f n = some (word n) := by
  unfold spec_exWord.f word
  rw [l1In_f]; rfl
end Go.Proofs.Ytaddadknmipfeaa.PureCd
