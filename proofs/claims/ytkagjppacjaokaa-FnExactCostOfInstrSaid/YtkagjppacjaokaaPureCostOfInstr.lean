/- CostOfInstr of the program and of the reference agree for all arguments. -/
import Derived.Test.YtkagjppacjaokaaPureCost
import Derived.Test.YtkagjppacjaokaaFSpecCostOfInstr
namespace Go.Proofs.Ytkagjppacjaokaa.PureOps
open Go.RowKit Go.Proofs.Ytkagjppacjaokaa.F Go.Proofs.YtkagjppacjaokaaW.PrintWords Go.Proofs.YtkagjppacjaokaaW.PrintLast Go.Proofs.YtkagjppacjaokaaW.PrintMore Go.Proofs.Ytkagjppacjaokaa.MKinds
set_option linter.unusedVariables false
theorem costOfInstr_true (o : ByteArray) (d a b m : Int) : laws_FnExactCostOfInstr.f 20 o d a b m = some true := by
  unfold laws_FnExactCostOfInstr.f laws_szInstr.f laws_toInstr.f spec_CostOfInstr.f impl_CostOfInstr.f
  simp only [Option.bind_some, isInstr_f 20 (by decide), cdGood_f 20 (by decide), cdCost_f, instrCost_f 20 (by decide)]
  cases h : goodI o.toList d a b m with
  | true =>
    rw [shape_cost (goodI_op h)]
    split <;> simp
  | false => split <;> simp
theorem costOfInstr_walk (x : ByteArray × Int × Int × Int × Int) (_ : instrOk x) (W : World) :
    Calls Try.prog 4 #[.agg #[.string x.1, .int .i64 x.2.1, .int .i64 x.2.2.1, .int .i64 x.2.2.2.1, .int .i64 x.2.2.2.2]] W fun e w' => e = .returned (.bool true) ∧ Below W.heap.size W w' :=
  laws_FnExactCostOfInstr.calls 20 x.1 x.2.1 x.2.2.1 x.2.2.2.1 x.2.2.2.2 true W (costOfInstr_true _ _ _ _ _) rfl
end Go.Proofs.Ytkagjppacjaokaa.PureOps
