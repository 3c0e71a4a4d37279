/- The constants of the program are those of the document. Conditions: none. -/
import Derived.Test.YtpbabefbiddpjaaPFnExactConstantsx1
namespace Go.Proofs.Ytpbabefbiddpjaa.Pure
open Go.RowKit Go.Proofs.Ytpbabefbiddpjaa.PFnExactConstants Go.Proofs.YtpbabefbiddpjaaW.PrintWords Go.Proofs.YtpbabefbiddpjaaW.PrintLast

/-- YOURS: laws_FnExactConstants.f  = some true
What it reaches (each with k first where it has rounds; `.mono`: more rounds tell the same; `.l0`, ..: its loops, with `.mono_l`): laws_FnExactConstants.f -/
theorem FnExactConstants : laws_FnExactConstants.Pure := rfl

end Go.Proofs.Ytpbabefbiddpjaa.Pure
