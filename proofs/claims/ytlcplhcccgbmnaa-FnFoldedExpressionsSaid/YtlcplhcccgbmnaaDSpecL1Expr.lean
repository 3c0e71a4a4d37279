/- The rest of YtlcplhcccgbmnaaDSpecExGood. -/
import Derived.Test.YtlcplhcccgbmnaaDK
import Derived.Test.YtlcplhcccgbmnaaDSpecL1CurNext
import Derived.Test.YtlcplhcccgbmnaaDSpecExGood
import Derived.Test.YtlcplhcccgbmnaaDDraw
namespace Go.Proofs.Ytlcplhcccgbmnaa.D
open Go.RowKit Go.Proofs.YtlcplhcccgbmnaaW.PrintWords Go.Proofs.YtlcplhcccgbmnaaW.PrintLast Go.Proofs.YtlcplhcccgbmnaaW.PrintMore
attribute [local go_sem] max2_int min2_int max_two min_two max_three min_three max_four min_four   -- for this text's walks alone
set_option linter.unusedVariables false
set_option linter.unusedSimpArgs false

/-! ### spec_l1Cur_expr: function 108 -/
-- needs: Derived.Test.YtlcplhcccgbmnaaDDraw
/- (*l1Cur).expr is walked by hand: it leans on spec_exGood.calls spec_exGood.mono spec_l1Cur_one.calls spec_l1Cur_of.calls spec_l1Cur_leaf.calls spec_exOps.calls -/

end Go.Proofs.Ytlcplhcccgbmnaa.D
