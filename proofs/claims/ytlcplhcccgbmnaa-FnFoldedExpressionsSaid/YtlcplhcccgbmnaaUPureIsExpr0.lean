/- What a slice of nodes that came in is known to be. -/
import Derived.Test.YtlcplhcccgbmnaaUPureIsE
namespace Go.Proofs.Ytlcplhcccgbmnaa.PureOps
open Go.RowKit Go.Proofs.Ytlcplhcccgbmnaa.D Go.Proofs.YtlcplhcccgbmnaaW.PrintWords Go.Proofs.YtlcplhcccgbmnaaW.PrintLast Go.Proofs.YtlcplhcccgbmnaaW.PrintMore
set_option linter.unusedVariables false
end Go.Proofs.Ytlcplhcccgbmnaa.PureOps
