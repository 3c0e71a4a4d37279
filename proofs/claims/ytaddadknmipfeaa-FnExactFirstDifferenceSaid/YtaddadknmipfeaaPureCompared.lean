/- Where two tables differ. Plain. -/
import Derived.Test.YtaddadknmipfeaaPureTable
import Derived.Test.YtaddadknmipfeaaFImplCompared
namespace Go.Proofs.Ytaddadknmipfeaa.PureOps
open Go.RowKit Go.Proofs.Ytaddadknmipfeaa.F Go.Proofs.YtaddadknmipfeaaW.PrintWords Go.Proofs.YtaddadknmipfeaaW.PrintLast Go.Proofs.YtaddadknmipfeaaW.PrintMore
set_option linter.unusedVariables false
theorem compared_f (k : Nat) (xs ys : List INode) (hk : 4 * xs.length + 4 * ys.length + 5900 < k) (hn : xs.length ≤ 1048576) (hm : ys.length ≤ 1048576) :
    impl_compared.f k xs ys = some (if isE xs = true ∧ isE ys = true then (tableL xs, tableL ys, true) else ([], [], false)) := by
  obtain ⟨k, rfl⟩ : ∃ m, k = m + 1 := ⟨k - 1, by omega⟩
  unfold impl_compared.f
  rw [isExpr_f (k + 1) xs (by omega) hn, isExpr_f (k + 1) ys (by omega) hm, Option.bind_some, Option.bind_some]
  by_cases hE : isE xs = true
  · by_cases hF : isE ys = true
    · rw [if_pos hE, if_pos ⟨hE, hF⟩, hF]
      simp only [impl_compared.j0]
      rw [if_neg (by decide), (table_f k xs hE (by omega)).2, (table_f k ys hF (by omega)).2]
      rfl
    · rw [if_pos hE, if_neg (fun h => hF h.2), Bool.eq_false_iff.2 hF]
      simp only [impl_compared.j0]
      rw [if_pos (by decide)]
  · rw [if_neg hE, if_neg (fun h => hE h.1)]
    simp only [impl_compared.j0]
    rw [if_pos trivial]
end Go.Proofs.Ytaddadknmipfeaa.PureOps
