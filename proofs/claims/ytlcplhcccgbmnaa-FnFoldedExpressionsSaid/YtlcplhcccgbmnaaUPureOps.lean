/- The ops of expressions, as the program and the reference tell them: how many operands an op has. -/
import Derived.Test.YtlcplhcccgbmnaaUPureContains
import Derived.Test.YtlcplhcccgbmnaaDAll
namespace Go.Proofs.Ytlcplhcccgbmnaa.PureOps
open Go.RowKit Go.Proofs.Ytlcplhcccgbmnaa.D Go.Proofs.YtlcplhcccgbmnaaW.PrintWords Go.Proofs.YtlcplhcccgbmnaaW.PrintLast Go.Proofs.YtlcplhcccgbmnaaW.PrintMore
set_option linter.unusedVariables false
set_option linter.unusedSimpArgs false

theorem hasS_loop (a : ByteArray) (xs : List ByteArray) (hn : xs.length ≤ 9223372036854775807) (d : Nat) : ∀ (k i : Nat), i + d = xs.length → d < k →
  spec_l1HasS.l0 k a xs (xs.length : Int) (i : Int) = some ((xs.drop i).any (fun x => x.toList == a.toList)) := by
 induction d with
 | zero =>
  intro k i h hk
  obtain ⟨k, rfl⟩ : ∃ m, k = m + 1 := ⟨k - 1, by omega⟩
  simp only [spec_l1HasS.l0]
  rw [if_neg (by omega), List.drop_eq_nil_of_le (by omega)]
  rfl
 | succ d ih =>
  intro k i h hk
  obtain ⟨k, rfl⟩ : ∃ m, k = m + 1 := ⟨k - 1, by omega⟩
  have hi : i < xs.length := by omega
  simp only [spec_l1HasS.l0]
  rw [if_pos (by omega), if_pos (by omega), if_pos (by omega), rdOf_getElem xs i hi, List.drop_eq_getElem_cons hi, List.any_cons]
  by_cases hc : xs[i].toList = a.toList
  ·rw [if_pos hc]; simp [hc]
  ·rw [if_neg hc, wrap64_small (by omega) (by omega), show ((i : Int) + 1) = ((i + 1 : Nat) : Int) by omega, ih k (i + 1) (by omega) (by omega)]
   simp [hc]
theorem exOne (a : ByteArray) : spec_exOne.f a = some (one a.toList) := by
 unfold spec_exOne.f one
 by_cases h : a.toList = [110, 111, 116]
 ·rw [if_pos h, h]; rfl
 ·rw [if_neg h]; simp [h]
theorem exTwo (k : Nat) (hk : 10 < k) (a : ByteArray) : spec_exTwo.f k a = some (two a.toList) := by
 unfold spec_exTwo.f spec_exOps.f spec_l1HasS.f
 simp only [Option.bind_some]
 have h := hasS_loop a ([(⟨#[97, 100, 100]⟩ : ByteArray), (⟨#[115, 117, 98]⟩ : ByteArray), (⟨#[109, 117, 108]⟩ : ByteArray), (⟨#[97, 110, 100]⟩ : ByteArray), (⟨#[111, 114]⟩ : ByteArray), (⟨#[120, 111, 114]⟩ : ByteArray), (⟨#[115, 104, 108]⟩ : ByteArray), (⟨#[115, 104, 114]⟩ : ByteArray), (⟨#[108, 101, 115, 115]⟩ : ByteArray), (⟨#[101, 113]⟩ : ByteArray)] : List ByteArray) (by simp) 10 k 0 rfl hk
 rw [List.drop_zero, lits_two] at h
 rw [show ((0 : Nat) : Int) = 0 from rfl] at h
 rw [h]; rfl
theorem operands_f (k : Nat) (hk : 12 < k) (a : ByteArray) : impl_operands.f k a = some (ops a.toList) := by
 obtain ⟨k, rfl⟩ : ∃ m, k = m + 2 := ⟨k - 2, by omega⟩
 have h2 := contains_two k (by omega) a
 have j1 : ∀ b, impl_operands.j1 (k + 1) a b = some (if b = true then 1 else if two a.toList then 2 else -1) := by
  intro b
  simp only [impl_operands.j1]
  cases b with
  | true => rfl
  | false =>
   rw [if_neg (show ¬ (false = true) by decide), if_neg (show ¬ (false = true) by decide)]
   have : ((impl_binary.f).bind fun t173 => ((slices_Contains_string_string.f k t173 a).bind fun t176 => (if t176 = true then (some (2 : Int)) else (some (-1))))) = ((impl_binary.f).bind fun t => slices_Contains_string_string.f k t a).bind fun t176 => (if t176 = true then (some (2 : Int)) else (some (-1))) := by
    rw [Option.bind_assoc]
   rw [this, h2, Option.bind_some]
   split <;> rfl
 have j0 : ∀ b, impl_operands.j0 (k + 2) a b = some (if b = true then 0 else if one a.toList then 1 else if two a.toList then 2 else -1) := by
  intro b
  simp only [impl_operands.j0]
  cases b with
  | true => rfl
  | false =>
   rw [if_neg (show ¬ (false = true) by decide), if_neg (show ¬ (false = true) by decide)]
   by_cases h : a.toList = [110, 111, 116]
   ·rw [if_pos h, j1, h]; rfl
   ·rw [if_neg h, j1]
    unfold one
    simp [h]
 unfold impl_operands.f ops leaf
 by_cases h : a.toList = [105, 110]
 ·rw [if_pos h, j0, h]; rfl
 ·rw [if_neg h, j0]
  simp [h]
end Go.Proofs.Ytlcplhcccgbmnaa.PureOps
