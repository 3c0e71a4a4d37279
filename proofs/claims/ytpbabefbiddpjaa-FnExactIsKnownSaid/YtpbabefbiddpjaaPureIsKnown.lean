/- IsKnown of the program and of the reference agree: over numbers. Conditions: none. -/
import Derived.Test.YtpbabefbiddpjaaPFnExactIsKnownx1
import Derived.Test.YtpbabefbiddpjaaMKinds
namespace Go.Proofs.Ytpbabefbiddpjaa.Pure
open Go.RowKit Go.Proofs.Ytpbabefbiddpjaa.PFnExactIsKnown Go.Proofs.YtpbabefbiddpjaaW.PrintWords Go.Proofs.YtpbabefbiddpjaaW.PrintLast Go.Proofs.Ytpbabefbiddpjaa.MKinds
theorem isKnown_true (a b : Int) : laws_FnExactIsKnown.f a b = some true := by
  unfold laws_FnExactIsKnown.f laws_toKnown.f spec_IsKnown.f impl_IsKnown.f spec_eqKnown.f spec_exWord.f impl_isWord.f spec_l1In.f impl_within.f
  simp only [Option.bind_some, ge_iff_le]
  by_cases h1 : 0 ≤ a <;> by_cases h2 : 0 ≤ b <;> by_cases h3 : a ≤ 63 <;> by_cases h4 : b ≤ 63 <;> simp [h1, h2, h3, h4]
theorem isKnown_walk (x : Int × Int) (_ : knownOk x) (W : World) : Calls Try.prog 4 #[.agg #[.int .i64 x.1, .int .i64 x.2]] W fun e w' => e = .returned (.bool true) ∧ Below W.heap.size W w' :=
  laws_FnExactIsKnown.calls x.1 x.2 true W (isKnown_true x.1 x.2)
end Go.Proofs.Ytpbabefbiddpjaa.Pure
