/- ApplyOp of the program and of the reference agree for all arguments. -/
import Derived.Test.YtpbabefbiddpjaaPureApply
import Derived.Test.YtpbabefbiddpjaaMKinds
namespace Go.Proofs.Ytpbabefbiddpjaa.PureOps
open Go.RowKit Go.Proofs.Ytpbabefbiddpjaa.F Go.Proofs.YtpbabefbiddpjaaW.PrintWords Go.Proofs.YtpbabefbiddpjaaW.PrintLast Go.Proofs.YtpbabefbiddpjaaW.PrintMore
set_option linter.unusedVariables false
set_option linter.unusedSimpArgs false
theorem applyOp_true (o : ByteArray) (a b : Int) : laws_FnExactApplyOp.f 20 o a b = some true := by
  unfold laws_FnExactApplyOp.f spec_ApplyOp.f impl_ApplyOp.f
  simp only [exWord_f, isWord_f, exOne, exTwo 20 (by decide), operands_f 20 (by decide), Option.bind_some]
  by_cases hs : (o.size : Int) > 1048576
  · rw [if_pos hs]
  rw [if_neg hs]
  by_cases ha : word a = true
  · by_cases hb : word b = true
    · have hb0 : 0 ≤ b := (word_iff.1 hb).1
      simp only [app_spec o a b hb0, app_impl o a b hb0, ha, hb, if_true, Option.bind_some]
      by_cases h1 : one o.toList = true
      · have e1 : ops o.toList = 1 := ops_one.2 h1
        simp only [h1, e1, if_true]
        by_cases h0 : b = 0 <;> simp [h0]
      · have n1 : ops o.toList ≠ 1 := fun e => h1 (ops_one.1 e)
        by_cases h2 : two o.toList = true
        · have e2 : ops o.toList = 2 := ops_two.2 h2
          simp [h1, h2, e2]
        · have lt : ops o.toList < 1 := (ops_lt _).2 ⟨by simpa using h1, by simpa using h2⟩
          simp [h1, h2, lt]
    · by_cases h1 : ops o.toList < 1 <;> simp [ha, hb, h1]
  · by_cases h1 : ops o.toList < 1 <;> simp [ha, h1]
theorem applyOp_walk (o : ByteArray) (_ : o.size ≤ maxLen) (a : Int) (_ : (Lit.int .i64 a).wf = true) (b : Int) (_ : (Lit.int .i64 b).wf = true) (W : World) :
    Calls Try.prog 9 #[.string o, .int .i64 a, .int .i64 b] W fun e w' => e = .returned (.bool true) ∧ Below W.heap.size W w' :=
  laws_FnExactApplyOp.calls 20 o a b true W (applyOp_true o a b)
end Go.Proofs.Ytpbabefbiddpjaa.PureOps
