/- ApplyOp of the program and of the reference agree for all arguments. -/
import Derived.Test.YtlcplhcccgbmnaaRPureApply
import Derived.Test.YtlcplhcccgbmnaaCLawsFnValuesOfNodes
namespace Go.Proofs.Ytlcplhcccgbmnaa.PureOps
open Go.RowKit Go.Proofs.Ytlcplhcccgbmnaa.C Go.Proofs.YtlcplhcccgbmnaaW.PrintWords Go.Proofs.YtlcplhcccgbmnaaW.PrintLast Go.Proofs.YtlcplhcccgbmnaaW.PrintMore
set_option linter.unusedVariables false
set_option linter.unusedSimpArgs false
end Go.Proofs.Ytlcplhcccgbmnaa.PureOps
