/- RunCode: one answer of both sides. Plain. -/
import Derived.Test.YtaddadknmipfeaaPureRun0
import Derived.Test.YtaddadknmipfeaaFSpecCdRegs
namespace Go.Proofs.Ytaddadknmipfeaa.PureCd
open Go.RowKit Go.Proofs.Ytaddadknmipfeaa.PureOps Go.Proofs.Ytaddadknmipfeaa.F Go.Proofs.YtaddadknmipfeaaW.PrintWords Go.Proofs.YtaddadknmipfeaaW.PrintLast Go.Proofs.YtaddadknmipfeaaW.PrintMore Go.Proofs.Ytaddadknmipfeaa.MKinds
set_option linter.unusedVariables false
set_option linter.unusedSimpArgs false
open Classical in
noncomputable def runCode_res (xs : List IInstr) (u : List Int) : List Int × Bool := if codeOk xs = true ∧ regsOk u = true then (runL xs u, true) else ([], false)
theorem clone_f (u : List Int) (hl : u.length ≤ 1048576) : slices_Clone_int_int.f u = some u := by
  unfold slices_Clone_int_int.f
  rw [Option.bind_some, if_pos (by simp; omega)]; rfl
theorem runCode_small (xs : List IInstr) (u : List Int) : (runCode_res xs u).1.length ≤ 6 := by
  unfold runCode_res
  split
  · rename_i h
    obtain ⟨h1, h2⟩ := regsOk_iff h.2
    have := (run_f 61 xs h.1 (by omega) u h1 h2).2.2.1
    show (runL xs u).length ≤ 6
    omega
  · simp
theorem runCode_i (k : Nat) (xs : List IInstr) (u : List Int) (hk : xs.length + u.length + 90 < k) (hn : xs.length ≤ 1048576) (hu : u.length ≤ 1048576) : impl_RunCode.f k xs u = some (runCode_res xs u) := by
  obtain ⟨k, rfl⟩ : ∃ m, k = m + 1 := ⟨k - 1, by omega⟩
  unfold impl_RunCode.f runCode_res
  rw [isCode_f (k + 1) xs hn (by omega), areRegs_f (k + 1) u hu (by omega)]
  simp only [Option.bind_some, impl_RunCode.j0]
  by_cases hc : codeOk xs = true
  · by_cases hr : regsOk u = true
    · obtain ⟨h1, h2⟩ := regsOk_iff hr
      rw [if_pos (show codeOk xs = true ∧ regsOk u = true from ⟨hc, hr⟩), if_pos hc, hr, if_neg (by decide), clone_f u hu, Option.bind_some, (run_f k xs hc (by omega) u h1 h2).2.1, Option.bind_some]
    · rw [if_neg (show ¬ (codeOk xs = true ∧ regsOk u = true) from fun h => hr h.2), if_pos hc, Bool.eq_false_iff.2 hr, if_pos (by decide)]
  · rw [if_neg (show ¬ (codeOk xs = true ∧ regsOk u = true) from fun h => hc h.1), if_neg hc, if_pos trivial]
end Go.Proofs.Ytaddadknmipfeaa.PureCd
