/- CostOfInstr of the program and of the reference agree for all arguments. -/
import Derived.Test.YtkagjppacjaokaaPureGoodI
import Derived.Test.YtkagjppacjaokaaMKinds
import Derived.Test.YtkagjppacjaokaaFSpecCdCost
import Derived.Test.YtkagjppacjaokaaFSpecCdCost
namespace Go.Proofs.Ytkagjppacjaokaa.PureOps
open Go.RowKit Go.Proofs.Ytkagjppacjaokaa.F Go.Proofs.YtkagjppacjaokaaW.PrintWords Go.Proofs.YtkagjppacjaokaaW.PrintLast Go.Proofs.YtkagjppacjaokaaW.PrintMore Go.Proofs.Ytkagjppacjaokaa.MKinds
set_option linter.unusedVariables false
/-- The cost of an op. -/
def costOf (o : List UInt8) : Int := if o = [109, 117, 108] then 4 else if o = [115, 104, 108] then 2 else if o = [115, 104, 114] then 2 else 1
theorem cdCost_f (o : ByteArray) : spec_cdCost.f o = some (costOf o.toList) := by
  unfold spec_cdCost.f costOf
  repeat' split
  all_goals rfl
theorem shape_cost {o : List UInt8} (h : (shape o).2.2.2.2.2 = true) : (shape o).2.2.2.2.1 = costOf o := by
  unfold shape at h ⊢
  unfold costOf
  by_cases h0 : o = [115, 101, 116]
  · subst h0; rfl
  rw [if_neg h0] at h ⊢
  by_cases h1 : o = [109, 111, 118] ∨ o = [110, 111, 116] ∨ o = [110, 101, 103]
  · rcases h1 with rfl | rfl | rfl <;> rfl
  rw [if_neg h1] at h ⊢
  by_cases h2 : two o = true
  · rw [if_pos h2]
    by_cases a : o = [109, 117, 108]
    · subst a; rfl
    · by_cases b : o = [115, 104, 108]
      · subst b; rfl
      · by_cases c : o = [115, 104, 114]
        · subst c; rfl
        · simp [a, b, c]
  rw [if_neg h2] at h ⊢
  by_cases h3 : o = [97, 100, 100, 105] ∨ o = [97, 110, 100, 105] ∨ o = [120, 111, 114, 105]
  · rcases h3 with rfl | rfl | rfl <;> rfl
  rw [if_neg h3] at h ⊢
  by_cases h4 : o = [115, 104, 108, 105] ∨ o = [115, 104, 114, 105]
  · rcases h4 with rfl | rfl <;> rfl
  rw [if_neg h4] at h ⊢
  by_cases h5 : o = [108, 101, 97]
  · subst h5; rfl
  · rw [if_neg h5] at h
    exact absurd h (by decide)
theorem goodI_op {o : List UInt8} {d a b m : Int} (h : goodI o d a b m = true) : (shape o).2.2.2.2.2 = true := by
  unfold goodI at h
  simp only [Bool.and_eq_true] at h
  exact h.2.1
theorem instrCost_f (k : Nat) (hk : 12 < k) (o : ByteArray) (d a b m : Int) : impl_Instr_cost.f k o d a b m = some ((shape o.toList).2.2.2.2.1) := by
  unfold impl_Instr_cost.f
  obtain ⟨s', e⟩ := formOf_f k hk o
  rw [e]; rfl
end Go.Proofs.Ytkagjppacjaokaa.PureOps
