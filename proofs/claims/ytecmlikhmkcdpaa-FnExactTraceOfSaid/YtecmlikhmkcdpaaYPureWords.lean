/- Lists of words. Plain. -/
import Derived.Test.YtecmlikhmkcdpaaYLoops
import Derived.Test.YtecmlikhmkcdpaaGImplRun
namespace Go.Proofs.Ytecmlikhmkcdpaa.PureOps
open Go.RowKit Go.Proofs.Ytecmlikhmkcdpaa.G Go.Proofs.YtecmlikhmkcdpaaW.PrintWords Go.Proofs.YtecmlikhmkcdpaaW.PrintLast Go.Proofs.YtecmlikhmkcdpaaW.PrintMore
set_option linter.unusedVariables false
set_option linter.unusedSimpArgs false
theorem rd_get (xs : List Int) (i : Nat) (h : i < xs.length) : rd xs (i : Int) = xs[i] := by
  simp [rd, List.getD_eq_getElem?_getD, h]
def words (u : List Int) : Prop := ∀ x ∈ u, 0 ≤ x ∧ x ≤ 63
theorem rd_word {u : List Int} (h : words u) (p : Int) : 0 ≤ rd u p ∧ rd u p ≤ 63 := by
  unfold rd
  rw [List.getD_eq_getElem?_getD]
  by_cases hp : p.toNat < u.length
  · rw [List.getElem?_eq_getElem hp]
    exact h _ (List.getElem_mem hp)
  · rw [List.getElem?_eq_none (by omega)]
    exact ⟨by simp, by simp⟩
end Go.Proofs.Ytecmlikhmkcdpaa.PureOps
