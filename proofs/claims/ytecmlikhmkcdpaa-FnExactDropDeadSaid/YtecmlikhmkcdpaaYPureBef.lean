/- What is alive before an instruction, of both sides. Plain. -/
import Derived.Test.YtecmlikhmkcdpaaYPureLive
import Derived.Test.YtecmlikhmkcdpaaYPureCode
import Derived.Test.YtecmlikhmkcdpaaGBw
namespace Go.Proofs.Ytecmlikhmkcdpaa.PureOps
open Go.RowKit Go.Proofs.Ytecmlikhmkcdpaa.G Go.Proofs.YtecmlikhmkcdpaaW.PrintWords Go.Proofs.YtecmlikhmkcdpaaW.PrintLast Go.Proofs.YtecmlikhmkcdpaaW.PrintMore
set_option linter.unusedVariables false
set_option linter.unusedSimpArgs false
theorem codeOk_len {xs : List IInstr} (h : codeOk xs = true) : xs.length ≤ 40 := by
  unfold codeOk at h
  simp only [Bool.and_eq_true, decide_eq_true_eq] at h
  exact h.1
theorem codeOk_good {xs : List IInstr} (h : codeOk xs = true) (i : Nat) (hi : i < xs.length) : goodI xs[i].f0.toList xs[i].f1 xs[i].f2 xs[i].f3 xs[i].f4 = true := by
  unfold codeOk at h
  simp only [Bool.and_eq_true, List.all_eq_true] at h
  exact h.2 _ (List.getElem_mem hi)
theorem bef_both (xs : List IInstr) (hc : codeOk xs = true) (k : Nat) (hk : 30 < k) (i : Nat) (hi : i < xs.length) (L : List Int) (hL : Want L) : ∃ r, impl_liveSets.hand_bef xs i L = some r ∧ spec_cdBefore.f k xs[i].f0 xs[i].f1 xs[i].f2 xs[i].f3 xs[i].f4 L = some r ∧ Want r := by
  unfold impl_liveSets.hand_bef
  rw [rdI xs i hi]
  exact before_both k 1000 hk (by omega) _ _ _ _ _ (codeOk_good hc i hi) L hL
theorem sets_ok (xs : List IInstr) (hc : codeOk xs = true) (out : List Int) (hw : Want out) : impl_liveSets.hand_ok xs out := by
  have := codeOk_len hc
  have := want_len hw
  refine ⟨by omega, by omega, hw, fun i hi L hL => ?_⟩
  obtain ⟨r, h1, _, h3⟩ := bef_both xs hc 31 (by omega) i hi L hL
  exact ⟨r, h1, h3⟩
theorem at_want (xs : List IInstr) (hc : codeOk xs = true) (out : List Int) (hw : Want out) : ∀ m, m ≤ xs.length → Want (impl_liveSets.hand_at xs out m) := by
  intro m
  induction m with
  | zero => exact fun _ => hw
  | succ m ih =>
    intro hm
    obtain ⟨r, h1, _, h3⟩ := bef_both xs hc 31 (by omega) (xs.length - 1 - m) (by omega) _ (ih (by omega))
    show Want ((impl_liveSets.hand_bef xs (xs.length - 1 - m) (impl_liveSets.hand_at xs out m)).getD [])
    rw [h1]
    exact h3
end Go.Proofs.Ytecmlikhmkcdpaa.PureOps
