/- InputsOf of the program and of the reference agree for all arguments. -/
import Derived.Test.YtlcplhcccgbmnaaUPureIsExpr0
import Derived.Test.YtlcplhcccgbmnaaDAll
namespace Go.Proofs.Ytlcplhcccgbmnaa.PureOps
open Go.RowKit Go.Proofs.Ytlcplhcccgbmnaa.D Go.Proofs.YtlcplhcccgbmnaaW.PrintWords Go.Proofs.YtlcplhcccgbmnaaW.PrintLast Go.Proofs.YtlcplhcccgbmnaaW.PrintMore
set_option linter.unusedVariables false
/-- A node that reads the input v. -/
def isIn (v : Int) (n : INode) : Bool := n.f0.toList == [105, 110] && n.f3 == v
/-- The inputs, in order. -/
def inp (a b : Bool) : List Int := (if a then [0] else []) ++ (if b then [1] else [])
theorem put_f (k : Nat) (hk : 5 < k) (a b : Bool) (v : Int) (hv : v = 0 ∨ v = 1) : spec_l1Put.f k (inp a b) v = some (inp (a || v == 0) (b || v == 1)) := by
 obtain ⟨m, rfl⟩ : ∃ m, k = m + 5 := ⟨k - 5, by omega⟩
 have w1 : wrap64 (0 + 1) = 1 := wrap64_small (n := 0 + 1) (by omega) (by omega)
 rcases hv with rfl | rfl <;> cases a <;> cases b <;> first | rfl | (simp [spec_l1Put.f, spec_l1Put.l0, inp, rd, show wrap64 1 = 1 from w1])
theorem inputs_s (xs : List INode) (hok : okAll xs) (hn : xs.length ≤ 1048576) (d : Nat) : ∀ (k i : Nat) (a b : Bool), i + d = xs.length → d + 20 < k →
  spec_InputsOf.l0 k (inp a b) xs (xs.length : Int) (i : Int) = some (inp (a || (xs.drop i).any (isIn 0)) (b || (xs.drop i).any (isIn 1)), true) := by
 induction d with
 | zero =>
  intro k i a b h hk
  obtain ⟨k, rfl⟩ : ∃ m, k = m + 1 := ⟨k - 1, by omega⟩
  simp only [spec_InputsOf.l0]
  rw [if_neg (by omega), List.drop_eq_nil_of_le (by omega)]
  simp
 | succ d ih =>
  intro k i a b h hk
  obtain ⟨k, rfl⟩ : ∃ m, k = m + 1 := ⟨k - 1, by omega⟩
  have hi : i < xs.length := by omega
  have hokI := hok i hi
  simp only [spec_InputsOf.l0]
  rw [if_pos (by omega), if_pos (by omega), if_pos (by omega), rdI xs i hi, List.drop_eq_getElem_cons hi, List.any_cons, List.any_cons, wrapS hi (by omega)]
  by_cases h1 : xs[i].f0.toList = [105, 110]
  ·have hb : 0 ≤ xs[i].f3 ∧ xs[i].f3 ≤ 1 := by
    unfold nodeOk at hokI
    rw [h1, if_pos (by decide), if_pos rfl] at hokI
    simp only [Bool.and_eq_true, decide_eq_true_eq] at hokI
    exact hokI.2
   rw [if_pos h1, put_f k (by omega) a b _ (by omega), Option.bind_some, ih k (i + 1) _ _ (by omega) (by omega)]
   simp [isIn, h1, Bool.or_assoc]
  ·rw [if_neg h1, ih k (i + 1) _ _ (by omega) (by omega)]
   have : ∀ v, isIn v xs[i] = false := fun v => by simp [isIn, h1]
   rw [this, this, Bool.false_or, Bool.false_or]
theorem index_f (xs : List INode) (hok : okAll xs) (hn : xs.length ≤ 1048576) (v : Int) (d : Nat) : ∀ (k i : Nat), i + d = xs.length → d + 20 < k →
  ∃ r, impl_Node_110.l0 k xs (xs.length : Int) (i : Int) ⟨#[105, 110]⟩ 0 0 v = some r ∧ decide (r ≥ 0) = (xs.drop i).any (isIn v) := by
 induction d with
 | zero =>
  intro k i h hk
  obtain ⟨k, rfl⟩ : ∃ m, k = m + 1 := ⟨k - 1, by omega⟩
  simp only [impl_Node_110.l0]
  rw [if_neg (by omega), List.drop_eq_nil_of_le (by omega)]
  exact ⟨_, rfl, by simp⟩
 | succ d ih =>
  intro k i h hk
  obtain ⟨k, rfl⟩ : ∃ m, k = m + 1 := ⟨k - 1, by omega⟩
  have hi : i < xs.length := by omega
  have hokI := hok i hi
  simp only [impl_Node_110.l0]
  rw [if_pos (by omega), if_pos (by omega), if_pos (by omega), rdI xs i hi, List.drop_eq_getElem_cons hi, List.any_cons, wrapS hi (by omega)]
  have he : ((⟨#[105, 110]⟩ : ByteArray).toList == xs[i].f0.toList && ((0 : Int) == xs[i].f1 && ((0 : Int) == xs[i].f2 && (v == xs[i].f3)))) = isIn v xs[i] := by
   have ht : (⟨#[105, 110]⟩ : ByteArray).toList = [105, 110] := by simp [ByteArray.toList, ByteArray.toList.loop, ByteArray.size, ByteArray.get!]
   rw [ht]
   by_cases h1 : xs[i].f0.toList = [105, 110]
   ·unfold nodeOk at hokI
    rw [h1, if_pos (by decide), if_pos rfl] at hokI
    simp only [Bool.and_eq_true, decide_eq_true_eq, beq_iff_eq] at hokI
    rw [Bool.eq_iff_iff]
    simp only [isIn, h1, Bool.and_eq_true, beq_iff_eq]
    constructor
    ·rintro ⟨_, _, _, h⟩
     exact ⟨trivial, h.symm⟩
    ·rintro ⟨_, h⟩
     exact ⟨trivial, by omega, by omega, h.symm⟩
   ·rw [Bool.eq_iff_iff]
    simp only [isIn, Bool.and_eq_true, beq_iff_eq]
    exact ⟨fun h => absurd h.1.symm h1, fun h => absurd h.1 h1⟩
  rw [he]
  by_cases hc : isIn v xs[i] = true
  ·rw [if_pos hc, hc]
   exact ⟨_, rfl, by simp⟩
  ·rw [if_neg hc]
   obtain ⟨r, h1, h2⟩ := ih k (i + 1) (by omega) (by omega)
   exact ⟨r, h1, by rw [h2, Bool.eq_false_iff.2 hc, Bool.false_or]⟩
theorem inputs_i (k : Nat) (xs : List INode) (hok : okAll xs) (hn : xs.length ≤ 1048576) (hk : xs.length + 40 < k) : impl_inputs.f k xs = some (inp (xs.any (isIn 0)) (xs.any (isIn 1))) := by
 have hin : ∀ k, xs.length + 20 < k → ∀ v, impl_Node_57.f k xs ⟨#[105, 110]⟩ 0 0 v = some (xs.any (isIn v)) := by
  intro k hk v
  obtain ⟨r, h1, h2⟩ := index_f xs hok hn v xs.length k 0 (by omega) (by omega)
  unfold impl_Node_57.f impl_Node_110.f
  rw [show ((0 : Nat) : Int) = 0 from rfl] at h1
  rw [h1, Option.bind_some, h2, List.drop_zero]
 obtain ⟨m, rfl⟩ : ∃ m, k = m + 3 := ⟨k - 3, by omega⟩
 unfold impl_inputs.f
 have w1 : wrap64 (0 + 1) = 1 := wrap64_small (n := 0 + 1) (by omega) (by omega)
 have w2 : wrap64 (1 + 1) = 2 := wrap64_small (n := 1 + 1) (by omega) (by omega)
 simp only [impl_inputs.l0]
 rw [if_pos (by decide), hin _ (by omega), Option.bind_some, w1, w2]
 have e1 : ∀ k, xs.length + 20 < k → impl_Node_57.f k xs ⟨#[105, 110]⟩ 0 0 1 = some (xs.any (isIn 1)) := fun k hk => hin k hk 1
 rw [if_pos (show (1 : Int) < 2 by decide), e1 _ (by omega), if_neg (show ¬ (2 : Int) < 2 by decide)]
 cases xs.any (isIn 0) <;> cases xs.any (isIn 1) <;> simp [inp]
theorem inputsOf_same (k : Nat) (xs : List INode) (hk : 4 * xs.length + 60 < k) (hn : xs.length ≤ 1048576) :
  spec_InputsOf.f k xs = some (if isE xs = true then (inp (xs.any (isIn 0)) (xs.any (isIn 1)), true) else ([], false)) ∧ impl_InputsOf.f k xs = some (if isE xs = true then (inp (xs.any (isIn 0)) (xs.any (isIn 1)), true) else ([], false)) := by
 unfold spec_InputsOf.f impl_InputsOf.f
 rw [good_f k xs hk hn, isExpr_f k xs hk hn, Option.bind_some, Option.bind_some]
 by_cases hE : isE xs = true
 ·obtain ⟨q1, q2, q3⟩ := isE_true hE
  have h := inputs_s xs q3 hn xs.length k 0 false false (by omega) (by omega)
  rw [List.drop_zero, Bool.false_or, Bool.false_or] at h
  rw [if_pos hE, if_pos hE, if_pos hE, inputs_i k xs q3 hn (by omega)]
  exact ⟨h, rfl⟩
 ·rw [if_neg hE, if_neg hE, if_neg hE]
  exact ⟨rfl, rfl⟩
end Go.Proofs.Ytlcplhcccgbmnaa.PureOps
