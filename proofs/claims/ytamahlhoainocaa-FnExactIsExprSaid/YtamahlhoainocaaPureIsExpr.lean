/- IsExpr of the program and of the reference agree for all arguments. -/
import Derived.Test.YtamahlhoainocaaPureIsExpr0
import Derived.Test.YtamahlhoainocaaFSpecIsExpr
namespace Go.Proofs.Ytamahlhoainocaa.PureOps
open Go.RowKit Go.Proofs.Ytamahlhoainocaa.F Go.Proofs.YtamahlhoainocaaW.PrintWords Go.Proofs.YtamahlhoainocaaW.PrintLast Go.Proofs.YtamahlhoainocaaW.PrintMore Go.Proofs.Ytamahlhoainocaa.MKinds
set_option linter.unusedVariables false
theorem isExpr_true (xs : List LNode) (hn : xs.length ≤ 9223372036854775807) (hs : ∀ x ∈ xs, x.f0.size ≤ 9223372036854775807) : laws_FnExactIsExpr.f (4 * xs.length + 100) xs = some true := by
  unfold laws_FnExactIsExpr.f
  obtain ⟨r, hr, _, hl⟩ := szNodeS_f (4 * xs.length + 100) xs 1048576 (by omega) (by omega) hn hs (by omega)
  rw [hr, Option.bind_some]
  by_cases h : r < 0
  · rw [if_pos h]
  · rw [if_neg h]
    have hn2 : xs.length ≤ 1048576 := by have := hl (by omega); omega
    have hn3 : (xs.map convN).length ≤ 1048576 := by simpa using hn2
    rw [toNodeS_f (4 * xs.length + 100) xs hn2 (by omega)]
    simp only [Option.bind_some, spec_IsExpr.f]
    rw [good_f (4 * xs.length + 100) (xs.map convN) (by simp) hn3, isExpr_f (4 * xs.length + 100) (xs.map convN) (by simp) hn3, eqNodeS_f (4 * xs.length + 100) (xs.map convN) hn3 (by simp; omega)]
    simp
theorem isExpr_walk (A : Option Addr) (c : Nat) (xs : List LNode) (hl : xs.length ≤ c) (W : World) (hr : Kd.C k88 W A xs.length xs) (hm : xs.length ≤ maxLen) (ho : ∀ x ∈ xs, nodeSOk x) :
    Calls Try.prog 3 #[.slice A xs.length c] W fun e w' => e = .returned (.bool true) ∧ Below W.heap.size W w' :=
  laws_FnExactIsExpr.calls (4 * xs.length + 100) A c xs true W hr hl (isExpr_true xs (len_ok hm) (nodes_ok ho)) rfl
end Go.Proofs.Ytamahlhoainocaa.PureOps
