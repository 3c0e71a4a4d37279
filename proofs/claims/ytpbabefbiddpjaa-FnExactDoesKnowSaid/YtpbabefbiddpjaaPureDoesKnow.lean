/- DoesKnow of the program and of the reference agree: over numbers. Conditions: none. -/
import Derived.Test.YtpbabefbiddpjaaPFnExactDoesKnowx1
import Derived.Test.YtpbabefbiddpjaaMKinds
namespace Go.Proofs.Ytpbabefbiddpjaa.Pure
open Go.RowKit Go.Proofs.Ytpbabefbiddpjaa.PFnExactDoesKnow Go.Proofs.YtpbabefbiddpjaaW.PrintWords Go.Proofs.YtpbabefbiddpjaaW.PrintLast Go.Proofs.Ytpbabefbiddpjaa.MKinds
theorem doesKnow_true (a b c : Int) : laws_FnExactDoesKnow.f a b c = some true := by
  unfold laws_FnExactDoesKnow.f laws_toKnown.f spec_DoesKnow.f impl_DoesKnow.f impl_IsKnown.f spec_eqKnown.f spec_eqFits.f spec_exWord.f impl_isWord.f spec_l1In.f impl_within.f
  simp only [Option.bind_some, ge_iff_le]
  by_cases h1 : 0 ≤ a <;> by_cases h2 : 0 ≤ b <;> by_cases h3 : a ≤ 63 <;> by_cases h4 : b ≤ 63 <;> simp [h1, h2, h3, h4]
  by_cases h5 : 0 ≤ c <;> by_cases h6 : c ≤ 63 <;> by_cases h7 : Go.bits .and .i64 a b = 0 <;> by_cases h8 : Go.bits .and .i64 c a = 0 <;> by_cases h9 : Go.bits .and .i64 c b = b <;> simp [h5, h6, h7, h8, h9]
theorem doesKnow_walk (x : Int × Int) (_ : knownOk x) (c : Int) (_ : (Lit.int .i64 c).wf = true) (W : World) : Calls Try.prog 5 #[.agg #[.int .i64 x.1, .int .i64 x.2], .int .i64 c] W fun e w' => e = .returned (.bool true) ∧ Below W.heap.size W w' :=
  laws_FnExactDoesKnow.calls x.1 x.2 c true W (doesKnow_true x.1 x.2 c)
end Go.Proofs.Ytpbabefbiddpjaa.Pure
