/- Contracts: impl_inputsAt. -/
import Derived.Test.YtaddadknmipfeaaFK
namespace Go.Proofs.Ytaddadknmipfeaa.F
open Go.RowKit Go.Proofs.YtaddadknmipfeaaW.PrintWords Go.Proofs.YtaddadknmipfeaaW.PrintLast Go.Proofs.YtaddadknmipfeaaW.PrintMore
attribute [local go_sem] max2_int min2_int max_two min_two max_three min_three max_four min_four   -- for this text's walks alone
set_option linter.unusedVariables false
set_option linter.unusedSimpArgs false

/-! ### impl_inputsAt: function 124 -/
def impl_inputsAt.f (a0 : Int) : Option (Int × Int) := some (wrap64 (Int.tdiv a0 64), Int.tmod a0 64)
set_option maxHeartbeats 8000000 in
set_option maxRecDepth 100000 in
theorem impl_inputsAt.calls (a0 : Int) (r1 : Int) (r2 : Int) (w : World) (h : impl_inputsAt.f a0 = some (r1, r2)) :
    Calls Try.prog 124 #[.int .i64 a0] w fun e w' => e = .returned (.tuple #[.int .i64 r1, .int .i64 r2]) ∧ Drawn0 w w' := by
  have H : (some (wrap64 (Int.tdiv a0 64), Int.tmod a0 64)) = some (r1, r2) := h
  clear h
  simp only [Option.some.injEq, Prod.mk.injEq] at H
  obtain ⟨rfl, rfl⟩ := H
  go_enter Try.func124, Try.ntmps124
  go_wp2
  go_ret2
  exact ⟨by first | rfl | (simp; done) | (simp [*]; done), by repeat (first | exact Drawn0.refl _ | apply Drawn0.step)⟩

end Go.Proofs.Ytaddadknmipfeaa.F
