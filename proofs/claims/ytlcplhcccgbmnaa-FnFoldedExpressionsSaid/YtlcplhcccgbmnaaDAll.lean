/- All that folding reaches. -/
import Derived.Test.YtlcplhcccgbmnaaDSpecL1CurAnyExpr
import Derived.Test.YtlcplhcccgbmnaaDLawsBig
import Derived.Test.YtlcplhcccgbmnaaDImplIsExpr
import Derived.Test.YtlcplhcccgbmnaaDImplNodeRenamed
import Derived.Test.YtlcplhcccgbmnaaDImplFold
import Derived.Test.YtlcplhcccgbmnaaDSpecExKeep
import Derived.Test.YtlcplhcccgbmnaaDSpecFoldExpr
import Derived.Test.YtlcplhcccgbmnaaDSpecInputsOf
