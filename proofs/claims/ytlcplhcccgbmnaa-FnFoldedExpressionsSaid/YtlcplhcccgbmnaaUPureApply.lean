/- The value of an op: the program's apply and the reference's tell the same, and it is a word. -/
import Derived.Test.YtlcplhcccgbmnaaUPlain
import Derived.Test.YtlcplhcccgbmnaaDAll
namespace Go.Proofs.Ytlcplhcccgbmnaa.PureOps
open Go.RowKit Go.Proofs.Ytlcplhcccgbmnaa.D Go.Proofs.YtlcplhcccgbmnaaW.PrintWords Go.Proofs.YtlcplhcccgbmnaaW.PrintLast Go.Proofs.YtlcplhcccgbmnaaW.PrintMore
set_option linter.unusedVariables false
set_option linter.unusedSimpArgs false

theorem bit_if {α : Type} (c : Bool) (f : Int → Option α) : (impl_bit.f c).bind f = if c = true then f 1 else f 0 := by
 unfold impl_bit.f
 cases c <;> rfl
theorem apply_same (o : ByteArray) (a b : Int) : impl_apply.f o a b = spec_exApply.f o a b := by
 unfold impl_apply.f spec_exApply.f
 simp only [bit_if, decide_eq_true_eq, beq_iff_eq]
theorem all_ite {α : Type} {P : α → Prop} {c : Prop} [Decidable c] {x y : α} (hx : c → P x) (hy : ¬ c → P y) : P (if c then x else y) := by
 split
 ·exact hx (by assumption)
 ·exact hy (by assumption)
/-- The value of an op. -/
def app (o : ByteArray) (a b : Int) : Int := (spec_exApply.f o a b).getD 0
theorem app_spec (o : ByteArray) (a b : Int) (hb : 0 ≤ b) : spec_exApply.f o a b = some (app o a b) := by
 have : ∃ r, spec_exApply.f o a b = some r := by
  unfold spec_exApply.f
  repeat' (first | exact ⟨_, rfl⟩ | exact absurd hb (by assumption) | refine all_ite (P := fun x => ∃ r, x = some r) (fun _ => ?_) (fun _ => ?_))
 obtain ⟨r, hr⟩ := this
 unfold app
 rw [hr]; rfl
theorem app_impl (o : ByteArray) (a b : Int) (hb : 0 ≤ b) : impl_apply.f o a b = some (app o a b) := (apply_same o a b).trans (app_spec o a b hb)

theorem and63 (x : Int) : Go.bits .and .i64 x 63 = x % 64 := by
 show IntKind.i64.wrap ((BitVec.ofInt 64 x &&& BitVec.ofInt 64 63).toNat : Int) = _
 have h : (BitVec.ofInt 64 x &&& BitVec.ofInt 64 63).toNat = (BitVec.ofInt 64 x).toNat % 64 := by
  rw [BitVec.toNat_and]
  exact Nat.and_two_pow_sub_one_eq_mod _ 6
 rw [h, IntKind.wrap_i64]
 have h2 : ((BitVec.ofInt 64 x).toNat : Int) = x % 18446744073709551616 := by
  rw [BitVec.toNat_ofInt]
  have := Int.emod_nonneg x (show (18446744073709551616 : Int) ≠ 0 by decide)
  show ((x % ((2 ^ 64 : Nat) : Int)).toNat : Int) = _
  rw [show ((2 ^ 64 : Nat) : Int) = 18446744073709551616 by decide]
  omega
 omega
theorem app_word (o : ByteArray) (a b : Int) : 0 ≤ app o a b ∧ app o a b ≤ 63 := by
 unfold app
 have key : ∀ x, 0 ≤ Go.bits .and .i64 x 63 ∧ Go.bits .and .i64 x 63 ≤ 63 := fun x => by rw [and63]; omega
 unfold spec_exApply.f
 repeat' (first | exact key _ | exact key 1 | exact key 0 | (show (0 : Int) ≤ 0 ∧ (0 : Int) ≤ 63; exact ⟨by decide, by decide⟩) | refine all_ite (P := fun x : Option Int => 0 ≤ x.getD 0 ∧ x.getD 0 ≤ 63) (fun _ => ?_) (fun _ => ?_))
end Go.Proofs.Ytlcplhcccgbmnaa.PureOps
