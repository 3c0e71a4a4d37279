/- EvalExpr of the program and of the reference agree for all arguments. -/
import Derived.Test.YtamahlhoainocaaPureIsExpr0
import Derived.Test.YtamahlhoainocaaPureValues
import Derived.Test.YtamahlhoainocaaFSpecEvalExpr
import Derived.Test.YtamahlhoainocaaFImplAreRight
import Derived.Test.YtamahlhoainocaaFSpecExAt
import Derived.Test.YtamahlhoainocaaFSpecExAt
namespace Go.Proofs.Ytamahlhoainocaa.PureOps
open Go.RowKit Go.Proofs.Ytamahlhoainocaa.F Go.Proofs.YtamahlhoainocaaW.PrintWords Go.Proofs.YtamahlhoainocaaW.PrintLast Go.Proofs.YtamahlhoainocaaW.PrintMore Go.Proofs.Ytamahlhoainocaa.MKinds
set_option linter.unusedVariables false
/-- The value of an expression. -/
def evalE (xs : List INode) (x y : Int) : Int := rd (vals xs x y) ((xs.length - 1 : Nat) : Int)
theorem eval_f (k : Nat) (xs : List INode) (hE : isE xs = true) {x y : Int} (hx : word x = true) (hy : word y = true) (hk : 100 < k) :
    spec_exAt.f k xs x y = some (evalE xs x y) ∧ impl_eval.f k xs x y = some (evalE xs x y) := by
  obtain ⟨h1, h2, h3, h4⟩ := values_f k xs hE hx hy hk
  obtain ⟨q1, q2, _⟩ := isE_true hE
  have hw : wrap64 ((xs.length : Int) - 1) = ((xs.length - 1 : Nat) : Int) := by rw [wrap64_small (by omega) (by omega)]; omega
  unfold spec_exAt.f impl_eval.f
  simp only [h1, h2, Option.bind_some, hw]
  rw [if_pos (by omega), if_pos (by omega)]
  exact ⟨rfl, rfl⟩
theorem areRight_f (k : Nat) (xs : List INode) (x y : Int) (hk : 4 * xs.length + 60 < k) (hn : xs.length ≤ 1048576) : impl_areRight.f k xs x y = some (isE xs && (word x && word y)) := by
  unfold impl_areRight.f
  rw [isExpr_f k xs hk hn, isWord_f, isWord_f]
  cases isE xs <;> cases word x <;> cases word y <;> rfl
theorem evalExpr_same (k : Nat) (xs : List INode) (x y : Int) (hk : 4 * xs.length + 60 < k) (hk2 : 100 < k) (hn : xs.length ≤ 1048576) :
    ∃ r, spec_EvalExpr.f k xs x y = some r ∧ impl_EvalExpr.f k xs x y = some r := by
  unfold spec_EvalExpr.f impl_EvalExpr.f
  rw [good_f k xs hk hn, areRight_f k xs x y hk hn, exWord_f, exWord_f]
  cases hE : isE xs with
  | false => exact ⟨_, rfl, rfl⟩
  | true =>
    cases hx : word x with
    | false => exact ⟨_, rfl, rfl⟩
    | true =>
      cases hy : word y with
      | false => exact ⟨_, rfl, rfl⟩
      | true =>
        obtain ⟨h1, h2⟩ := eval_f k xs hE hx hy hk2
        refine ⟨(evalE xs x y, true), ?_, ?_⟩
        · simp only [Option.bind_some, if_true, h1]
        · simp only [Option.bind_some, Bool.and_self, if_true, h2]
theorem evalExpr_true (xs : List LNode) (x y : Int) (hn : xs.length ≤ 9223372036854775807) (hs : ∀ x ∈ xs, x.f0.size ≤ 9223372036854775807) : laws_FnExactEvalExpr.f (4 * xs.length + 200) xs x y = some true := by
  unfold laws_FnExactEvalExpr.f
  obtain ⟨r, hr, _, hl⟩ := szNodeS_f (4 * xs.length + 200) xs 1048576 (by omega) (by omega) hn hs (by omega)
  rw [hr, Option.bind_some]
  by_cases h : r < 0
  · rw [if_pos h]
  · rw [if_neg h]
    have hn2 : xs.length ≤ 1048576 := by have := hl (by omega); omega
    have hn3 : (xs.map convN).length ≤ 1048576 := by simpa using hn2
    have j0 : laws_FnExactEvalExpr.j0 (4 * xs.length + 200) xs (xs.map convN) false = some true := by
      rw [show 4 * xs.length + 200 = (4 * xs.length + 199) + 1 from rfl]
      simp only [laws_FnExactEvalExpr.j0]
      rw [if_neg (by decide), toNodeS_f (4 * xs.length + 199) xs hn2 (by omega), Option.bind_some, eqNodeS_f (4 * xs.length + 199) (xs.map convN) hn3 (by rw [List.length_map]; omega), Option.bind_some, if_pos rfl]
    rw [toNodeS_f (4 * xs.length + 200) xs hn2 (by omega)]
    obtain ⟨⟨q, b⟩, h1, h2⟩ := evalExpr_same (4 * xs.length + 200) (xs.map convN) x y (by rw [List.length_map]; omega) (by omega) hn3
    simp only [Option.bind_some, h1, h2]
    simpa using j0
theorem evalExpr_walk (A : Option Addr) (c : Nat) (xs : List LNode) (hl : xs.length ≤ c) (W : World) (hr : Kd.C k88 W A xs.length xs) (hm : xs.length ≤ maxLen) (ho : ∀ x ∈ xs, nodeSOk x) (x : Int) (_ : (Lit.int .i64 x).wf = true) (y : Int) (_ : (Lit.int .i64 y).wf = true) :
    Calls Try.prog 12 #[.slice A xs.length c, .int .i64 x, .int .i64 y] W fun e w' => e = .returned (.bool true) ∧ Below W.heap.size W w' :=
  laws_FnExactEvalExpr.calls (4 * xs.length + 200) A c xs x y true W hr hl (evalExpr_true xs x y (len_ok hm) (nodes_ok ho)) rfl
end Go.Proofs.Ytamahlhoainocaa.PureOps
