/- The digits of small numbers, as the program and the reference write them. -/
import Derived.Test.YtjeklcgflocfoaaDoorQPlain
import Derived.Test.YtjeklcgflocfoaaDoorJLawsEqNodeS
namespace Go.Proofs.YtjeklcgflocfoaaDoor.PureOps
open Go.RowKit Go.Proofs.YtjeklcgflocfoaaDoor.J Go.Proofs.YtjeklcgflocfoaaDoorW.PrintWords Go.Proofs.YtjeklcgflocfoaaDoorW.PrintLast Go.Proofs.YtjeklcgflocfoaaDoorW.PrintMore
set_option linter.unusedVariables false
/-- The digits of a number. -/
def num (x : Int) : ByteArray := ⟨(Lib.decDigits x.toNat).toArray⟩
theorem num_size (x : Int) (h : x.toNat < 100) : (num x).size ≤ 2 := by
  unfold num
  rw [itoaTwo_eq _ h, itoaTwo]
  split
  · exact (by decide : (1 : Nat) ≤ 2)
  · exact Nat.le_refl 2
theorem l1Num_up (x : Int) (r : ByteArray) : ∀ j k : Nat, j ≤ k → spec_l1Num.f j x = some r → spec_l1Num.f k x = some r := by
  intro j k h e
  induction h with
  | refl => exact e
  | step _ ih => exact spec_l1Num.mono x _ r ih
theorem l1Num_num (k : Nat) (hk : 3 ≤ k) (x : Int) (h0 : 0 ≤ x) (h1 : x < 100) : spec_l1Num.f k x = some (num x) := by
  obtain ⟨i, rfl⟩ := Int.eq_ofNat_of_zero_le h0
  exact l1Num_up _ _ 3 k hk (itoaSmall i (by omega))
theorem itoa_num (k : Nat) (x : Int) (h0 : 0 ≤ x) (h1 : x < 100) : strconv_Itoa_98.f k x = some (num x) := by
  unfold strconv_Itoa_98.f
  rw [if_pos ⟨h0, h1⟩, l1Num_num 3 (by omega) x h0 h1]
end Go.Proofs.YtjeklcgflocfoaaDoor.PureOps
