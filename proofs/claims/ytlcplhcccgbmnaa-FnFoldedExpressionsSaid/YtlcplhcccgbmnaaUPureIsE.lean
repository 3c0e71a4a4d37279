/- Which lists of nodes are expressions: one answer of both sides. Plain. -/
import Derived.Test.YtlcplhcccgbmnaaUPureExpr
namespace Go.Proofs.Ytlcplhcccgbmnaa.PureOps
open Go.RowKit Go.Proofs.Ytlcplhcccgbmnaa.D Go.Proofs.YtlcplhcccgbmnaaW.PrintWords Go.Proofs.YtlcplhcccgbmnaaW.PrintLast Go.Proofs.YtlcplhcccgbmnaaW.PrintMore
set_option linter.unusedVariables false
set_option linter.unusedSimpArgs false

open Classical in
/-- Nodes are an expression. -/
noncomputable def isE (xs : List INode) : Bool := decide (1 ≤ xs.length ∧ xs.length ≤ 24) && (decide (okAll xs) && !((usesL xs).take (xs.length - 1)).contains 0)
theorem isE_true {xs : List INode} (h : isE xs = true) : 1 ≤ xs.length ∧ xs.length ≤ 24 ∧ okAll xs := by
 unfold isE at h
 simp only [Bool.and_eq_true, decide_eq_true_eq] at h
 exact ⟨h.1.1, h.1.2, h.2.1⟩
theorem not_ok {xs : List INode} {i : Nat} (hi : i < xs.length) (hb : nodeOk xs[i].f0.toList xs[i].f1 xs[i].f2 xs[i].f3 (i : Int) = false) : isE xs = false := by
 have : ¬ okAll xs := fun h => by rw [h i hi] at hb; cases hb
 unfold isE
 simp [this]
theorem good_f (k : Nat) (xs : List INode) (hk : 4 * xs.length + 60 < k) (hn : xs.length ≤ 1048576) : spec_exGood.f k xs = some (isE xs) := by
 unfold spec_exGood.f
 rw [l1In_f, Option.bind_some]
 by_cases hr : 1 ≤ xs.length ∧ xs.length ≤ 24
 ·rw [if_pos (by simp; omega)]
  obtain ⟨r, hr', hq⟩ := some_loop (fun k (_ : Unit) i => spec_exGood.l0 k xs xs (xs.length : Int) i) xs.length (by omega) (3 * xs.length + 50) (fun i _ => ∀ (j : Nat) (h : j < xs.length), j < i → nodeOk xs[j].f0.toList xs[j].f1 xs[j].f2 xs[j].f3 (j : Int) = true) (fun r => r = isE xs)
   (fun k i s hk hi hI => by
    have hg := exNode_f k (by omega) xs[i].f0 xs[i].f1 xs[i].f2 xs[i].f3 (i : Int) ⟨by omega, by omega⟩
    cases hb : nodeOk xs[i].f0.toList xs[i].f1 xs[i].f2 xs[i].f3 (i : Int) with
    | true =>
     refine .inr ⟨(), ?_, fun j hj hji => ?_⟩
     ·simp only [spec_exGood.l0]
      rw [if_pos (by omega), if_pos (by omega), if_pos (by omega), rdI xs i hi, hg, hb, Option.bind_some, if_pos rfl]
     ·by_cases e : j = i
      ·subst e; exact hb
      ·exact hI j hj (by omega)
    | false =>
     refine .inl ⟨false, ?_, (not_ok hi hb).symm⟩
     simp only [spec_exGood.l0]
     rw [if_pos (by omega), if_pos (by omega), if_pos (by omega), rdI xs i hi, hg, hb, Option.bind_some, if_neg (by decide)])
   (fun k s hk hI => by
    have hok : okAll xs := fun i h => hI i h h
    refine ⟨!((usesL xs).take (xs.length - 1)).contains 0, ?_, ?_⟩
    ·simp only [spec_exGood.l0]
     have hw : wrap64 ((xs.length : Int) - 1) = ((xs.length - 1 : Nat) : Int) := by rw [wrap64_small (by omega) (by omega)]; omega
     rw [if_neg (by omega), (uses_f k xs hok hn (by omega)).1, Option.bind_some, hw, if_pos (by omega), if_pos (by rw [usesL_length]; omega), Int.toNat_natCast, has_f k _ 0 (by simp [usesL_length]; omega) (by simp [usesL_length]; omega), Option.bind_some]
    ·unfold isE
     simp [hr, hok]) xs.length k 0 () (by omega) (by omega) (fun j _ h => by omega)
  rw [← hq]; exact hr'
 ·rw [if_neg (by simp; omega)]
  unfold isE
  rw [decide_eq_false hr]; rfl
theorem isExpr_f (k : Nat) (xs : List INode) (hk : 4 * xs.length + 60 < k) (hn : xs.length ≤ 1048576) : impl_IsExpr.f k xs = some (isE xs) := by
 unfold impl_IsExpr.f
 rw [within_f, Option.bind_some]
 by_cases hr : 1 ≤ xs.length ∧ xs.length ≤ 24
 ·rw [if_pos (by simp; omega)]
  obtain ⟨r, hr', hq⟩ := some_loop (fun k (_ : Unit) i => impl_IsExpr.l0 k xs xs (xs.length : Int) i) xs.length (by omega) (3 * xs.length + 50) (fun i _ => ∀ (j : Nat) (h : j < xs.length), j < i → nodeOk xs[j].f0.toList xs[j].f1 xs[j].f2 xs[j].f3 (j : Int) = true) (fun r => r = isE xs)
   (fun k i s hk hi hI => by
    have hg := isNode_f k (by omega) xs[i].f0 xs[i].f1 xs[i].f2 xs[i].f3 (i : Int) ⟨by omega, by omega⟩
    cases hb : nodeOk xs[i].f0.toList xs[i].f1 xs[i].f2 xs[i].f3 (i : Int) with
    | true =>
     refine .inr ⟨(), ?_, fun j hj hji => ?_⟩
     ·simp only [impl_IsExpr.l0]
      rw [if_pos (by omega), if_pos (by omega), if_pos (by omega), rdI xs i hi, hg, hb, Option.bind_some, if_pos rfl]
     ·by_cases e : j = i
      ·subst e; exact hb
      ·exact hI j hj (by omega)
    | false =>
     refine .inl ⟨false, ?_, (not_ok hi hb).symm⟩
     simp only [impl_IsExpr.l0]
     rw [if_pos (by omega), if_pos (by omega), if_pos (by omega), rdI xs i hi, hg, hb, Option.bind_some, if_neg (by decide)])
   (fun k s hk hI => by
    have hok : okAll xs := fun i h => hI i h h
    refine ⟨!((usesL xs).take (xs.length - 1)).contains 0, ?_, ?_⟩
    ·simp only [impl_IsExpr.l0]
     have hw : wrap64 ((xs.length : Int) - 1) = ((xs.length - 1 : Nat) : Int) := by rw [wrap64_small (by omega) (by omega)]; omega
     rw [if_neg (by omega), (uses_f k xs hok hn (by omega)).2, Option.bind_some, hw, if_pos (by omega), if_pos (by rw [usesL_length]; omega), Int.toNat_natCast, containsInt_f k _ 0 (by simp [usesL_length]; omega) (by simp [usesL_length]; omega), Option.bind_some]
    ·unfold isE
     simp [hr, hok]) xs.length k 0 () (by omega) (by omega) (fun j _ h => by omega)
  rw [← hq]; exact hr'
 ·rw [if_neg (by simp; omega)]
  unfold isE
  rw [decide_eq_false hr]; rfl
end Go.Proofs.Ytlcplhcccgbmnaa.PureOps
