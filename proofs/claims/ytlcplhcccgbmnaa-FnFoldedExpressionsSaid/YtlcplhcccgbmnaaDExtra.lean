/- A function of the reference, as printed for another statement of this seat: the values of all nodes. Plain. -/
import Derived.Test.YtlcplhcccgbmnaaDImplFold
namespace Go.Proofs.Ytlcplhcccgbmnaa.D
open Go.RowKit Go.Proofs.YtlcplhcccgbmnaaW.PrintWords Go.Proofs.YtlcplhcccgbmnaaW.PrintLast Go.Proofs.YtlcplhcccgbmnaaW.PrintMore
set_option linter.unusedVariables false
/-! ### spec_exValues: function 75 -/
mutual
def spec_exValues.l0 : Nat → Int → Int → List Int → List (S47) → Int → Int → Option (List Int)
 | 0, _, _, _, _, _, _ => none
 | k + 1, x1, x2, x7, x10, x11, x12 => if x12 < x11 then (if 0 ≤ x12 then (if x12 < (x10.length : Int) then (if ((rd_T47 x10 x12).f0).toList = ([99, 111, 110, 115, 116] : List UInt8) then (if x7.length < 17592186044416 then (spec_exValues.l0 k x1 x2 (x7 ++ [(rd_T47 x10 x12).f3]) x10 x11 (wrap64 (x12 + 1))) else (none)) else (if ((rd_T47 x10 x12).f0).toList = ([105, 110] : List UInt8) then (spec_exValues.j1 k x1 x2 x7 x10 x11 x12 (((rd_T47 x10 x12).f3) == 0) ((rd_T47 x10 x12).f0) ((rd_T47 x10 x12).f1) ((rd_T47 x10 x12).f2) ((rd_T47 x10 x12).f3)) else (spec_exValues.j1 k x1 x2 x7 x10 x11 x12 false ((rd_T47 x10 x12).f0) ((rd_T47 x10 x12).f1) ((rd_T47 x10 x12).f2) ((rd_T47 x10 x12).f3)))) else (none)) else (none)) else (some x7)
def spec_exValues.j1 : Nat → Int → Int → List Int → List (S47) → Int → Int → Bool → ByteArray → Int → Int → Int → Option (List Int)
 | 0, _, _, _, _, _, _, _, _, _, _, _ => none
 | k + 1, x1, x2, x7, x10, x11, x12, x41, x366000, x366001, x366002, x366003 => if x41 = true then (if x7.length < 17592186044416 then (spec_exValues.l0 k x1 x2 (x7 ++ [x1]) x10 x11 (wrap64 (x12 + 1))) else (none)) else (if x366000.toList = ([105, 110] : List UInt8) then (if x7.length < 17592186044416 then (spec_exValues.l0 k x1 x2 (x7 ++ [x2]) x10 x11 (wrap64 (x12 + 1))) else (none)) else ((spec_exOne.f x366000).bind fun t375 => (if t375 = true then (if 0 ≤ x366001 then (if x366001 < (x7.length : Int) then ((spec_exApply.f x366000 (rd x7 x366001) 0).bind fun t377 => (if x7.length < 17592186044416 then (spec_exValues.l0 k x1 x2 (x7 ++ [t377]) x10 x11 (wrap64 (x12 + 1))) else (none))) else (none)) else (none)) else (if 0 ≤ x366001 then (if x366001 < (x7.length : Int) then (if 0 ≤ x366002 then (if x366002 < (x7.length : Int) then ((spec_exApply.f x366000 (rd x7 x366001) (rd x7 x366002)).bind fun t383 => (if x7.length < 17592186044416 then (spec_exValues.l0 k x1 x2 (x7 ++ [t383]) x10 x11 (wrap64 (x12 + 1))) else (none))) else (none)) else (none)) else (none)) else (none)))))
end
def spec_exValues.f (k : Nat) (l0 : List (S47)) (a1 : Int) (a2 : Int) : Option (List Int) := spec_exValues.l0 k a1 a2 ([] : List Int) l0 (l0.length : Int) 0
end Go.Proofs.Ytlcplhcccgbmnaa.D
