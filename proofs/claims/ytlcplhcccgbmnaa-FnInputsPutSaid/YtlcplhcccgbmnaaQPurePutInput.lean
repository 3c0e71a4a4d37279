/- PutInput of the program and of the reference agree for all arguments. -/
import Derived.Test.YtlcplhcccgbmnaaQPureIsExpr0
import Derived.Test.YtlcplhcccgbmnaaQPureMoved
import Derived.Test.YtlcplhcccgbmnaaQPureIndexN
import Derived.Test.YtlcplhcccgbmnaaBLawsFnInputsPut
namespace Go.Proofs.Ytlcplhcccgbmnaa.PureOps
open Go.RowKit Go.Proofs.Ytlcplhcccgbmnaa.B Go.Proofs.YtlcplhcccgbmnaaW.PrintWords Go.Proofs.YtlcplhcccgbmnaaW.PrintLast Go.Proofs.YtlcplhcccgbmnaaW.PrintMore
set_option linter.unusedVariables false
set_option linter.unusedSimpArgs false
theorem used_s (xs ys : List INode) (a : Int) (hn : xs.length ≤ 1048576) (d : Nat) : ∀ (k i : Nat) (b : Bool), i + d = xs.length → d + 3 < k →
    ∃ k', k ≤ k' + d + 1 ∧ spec_PutInput.l0 k xs a ys b xs (xs.length : Int) (i : Int) = spec_PutInput.l0 (k' + 1) xs a ys (b || (xs.drop i).any (isIn a)) xs (xs.length : Int) (xs.length : Int) := by
  induction d with
  | zero =>
    intro k i b h hk
    obtain ⟨k, rfl⟩ : ∃ m, k = m + 1 := ⟨k - 1, by omega⟩
    obtain rfl : i = xs.length := by omega
    exact ⟨k, by omega, by rw [List.drop_eq_nil_of_le (by omega)]; simp⟩
  | succ d ih =>
    intro k i b h hk
    obtain ⟨k, rfl⟩ : ∃ m, k = m + 1 := ⟨k - 1, by omega⟩
    have hi : i < xs.length := by omega
    have e : spec_PutInput.l0 (k + 1) xs a ys b xs (xs.length : Int) (i : Int) = spec_PutInput.l0 k xs a ys (b || isIn a xs[i]) xs (xs.length : Int) ((i + 1 : Nat) : Int) := by
      simp only [spec_PutInput.l0]
      rw [if_pos (by omega), if_pos (by omega), if_pos (by omega), rdI xs i hi, wrapS hi (by omega)]
      unfold isIn
      cases b with
      | true => rw [if_pos rfl, Bool.true_or]
      | false =>
        rw [if_neg (by decide), Bool.false_or]
        by_cases h1 : xs[i].f0.toList = [105, 110]
        · rw [if_pos h1, show (xs[i].f0.toList == [105, 110]) = true from beq_iff_eq.2 h1, Bool.true_and]
        · rw [if_neg h1, show (xs[i].f0.toList == [105, 110]) = false from beq_eq_false_iff_ne.2 h1, Bool.false_and]
    obtain ⟨k', hk', e'⟩ := ih k (i + 1) (b || isIn a xs[i]) (by omega) (by omega)
    refine ⟨k', by omega, ?_⟩
    rw [e, e', List.drop_eq_getElem_cons hi, List.any_cons, Bool.or_assoc]
theorem put_main (xs ys : List INode) (a : Int) (hok : okAll xs) (hn : xs.length ≤ 24) (hy : 1 ≤ ys.length ∧ ys.length ≤ 24) (d : Nat) : ∀ (k1 k2 i : Nat) (P : List Int) (out : List INode), i + d = xs.length → d + 40 < k1 → d + 40 < k2 → P.length = xs.length → out.length ≤ 24 + i →
    ∃ r, spec_PutInput.l1 k1 a ys out P xs (xs.length : Int) (i : Int) = some r ∧ impl_PutInput.l0 k2 ys out P xs (xs.length : Int) (i : Int) ⟨#[105, 110]⟩ 0 0 a = some r ∧ r.1.length ≤ 24 := by
  induction d with
  | zero =>
    intro k1 k2 i P out h h1 h2 hP ho
    obtain ⟨k1, rfl⟩ : ∃ m, k1 = m + 1 := ⟨k1 - 1, by omega⟩
    obtain ⟨k2, rfl⟩ : ∃ m, k2 = m + 1 := ⟨k2 - 1, by omega⟩
    simp only [spec_PutInput.l1, impl_PutInput.l0]
    rw [if_neg (show ¬ (i : Int) < (xs.length : Int) by omega), if_neg (show ¬ (i : Int) < (xs.length : Int) by omega)]
    by_cases hc : (out.length : Int) > 24
    · rw [if_pos hc]
      exact ⟨([], false), rfl, rfl, by simp⟩
    · rw [if_neg hc]
      exact ⟨(out, true), rfl, rfl, by show out.length ≤ 24; omega⟩
  | succ d ih =>
    intro k1 k2 i P out h h1 h2 hP ho
    obtain ⟨k1, rfl⟩ : ∃ m, k1 = m + 1 := ⟨k1 - 1, by omega⟩
    obtain ⟨k2, rfl⟩ : ∃ m, k2 = m + 1 := ⟨k2 - 1, by omega⟩
    have hi : i < xs.length := by omega
    have hwS : Unit → wrap64 ((i : Int) + 1) = ((i + 1 : Nat) : Int) := fun _ => wrapS hi (by omega)
    have heq := isIn_eq (hok i hi) a
    have hPl : (P.set i (out.length : Int)).length = xs.length := by rw [List.length_set]; exact hP
    have hm1 := moved_s k1 (by omega) xs[i] (i : Int) (hok i hi) (P.set i (out.length : Int)) (by omega)
    have hm2 := moved_i k2 (by omega) xs[i] (i : Int) (hok i hi) (P.set i (out.length : Int)) (by omega)
    simp only [spec_PutInput.l1, impl_PutInput.l0]
    rw [if_pos (show (i : Int) < (xs.length : Int) by omega), if_pos (show (0 : Int) ≤ (i : Int) by omega), if_pos (show (i : Int) < (xs.length : Int) by omega), if_pos (show (i : Int) < (xs.length : Int) by omega), if_pos (show (0 : Int) ≤ (i : Int) by omega), if_pos (show (i : Int) < (xs.length : Int) by omega), rdI xs i hi, heq, hwS ()]
    by_cases hc : isIn a xs[i] = true
    · obtain ⟨r, e1, e2, e3⟩ := ih k1 k2 (i + 1) (P.set i (wrap64 ((ys.length : Int) - 1))) out (by omega) (by omega) (by omega) (by rw [List.length_set]; exact hP) (by omega)
      have hc' := hc
      unfold isIn at hc'
      simp only [Bool.and_eq_true, beq_iff_eq] at hc'
      refine ⟨r, ?_, ?_, e3⟩
      · rw [if_pos hc'.1, if_pos hc'.2, if_pos (by omega), Int.toNat_natCast]
        exact e1
      · rw [if_pos hc, if_pos (by omega), Int.toNat_natCast]
        exact e2
    · obtain ⟨r, e1, e2, e3⟩ := ih k1 k2 (i + 1) (P.set i (out.length : Int)) (out ++ [moved xs[i] (P.set i (out.length : Int))]) (by omega) (by omega) (by omega) hPl (by simp; omega)
      refine ⟨r, ?_, ?_, e3⟩
      · by_cases h0 : xs[i].f0.toList = [105, 110]
        · have h3 : ¬ xs[i].f3 = a := fun h => hc (by unfold isIn; simp [h0, h])
          rw [if_pos h0, if_neg h3, if_pos (by omega), Int.toNat_natCast, Option.bind_some, hm1, Option.bind_some, if_pos (by omega)]
          exact e1
        · rw [if_neg h0, if_pos (by omega), Int.toNat_natCast, Option.bind_some, hm1, Option.bind_some, if_pos (by omega)]
          exact e1
      · rw [if_neg hc, if_pos (by omega), Int.toNat_natCast, Option.bind_some, hm2, Option.bind_some, if_pos (by omega)]
        exact e2
theorem cloneN_f (xs : List INode) (hn : xs.length ≤ 24) : impl_Node_58.f xs = some xs := by
  unfold impl_Node_58.f
  rw [Option.bind_some, if_pos (by simp; omega)]; rfl
theorem putInput_same (k : Nat) (xs ys : List INode) (a : Int) (hk : 4 * xs.length + 4 * ys.length + 460 < k) (hn : xs.length ≤ 1048576) (hm : ys.length ≤ 1048576) :
    ∃ q, spec_PutInput.f k xs a ys = some q ∧ impl_PutInput.f k xs a ys = some q ∧ q.1.length ≤ 24 := by
  obtain ⟨k, rfl⟩ : ∃ m, k = m + 1 := ⟨k - 1, by omega⟩
  unfold spec_PutInput.f impl_PutInput.f
  rw [good_f (k + 1) xs (by omega) hn, isExpr_f (k + 1) xs (by omega) hn, good_f (k + 1) ys (by omega) hm, isExpr_f (k + 1) ys (by omega) hm, l1In_f, within_f]
  simp only [Option.bind_some, spec_PutInput.j0, impl_PutInput.j0]
  by_cases hE : isE xs = true
  · by_cases hF : isE ys = true
    · by_cases ha : (decide (0 ≤ a) && decide (a ≤ 1)) = true
      · obtain ⟨n1, n2, hok⟩ := isE_true hE
        obtain ⟨m1, m2, _⟩ := isE_true hF
        obtain ⟨k', hk', e⟩ := used_s xs ys a hn xs.length k 0 false (by omega) (by omega)
        rw [List.drop_zero, Bool.false_or] at e
        have e' : spec_PutInput.l0 k xs a ys false xs (xs.length : Int) 0 = spec_PutInput.l0 (k' + 1) xs a ys (xs.any (isIn a)) xs (xs.length : Int) (xs.length : Int) := e
        rw [if_pos hE, if_pos hE, if_pos hF, if_pos hF, ha, if_neg (by decide), if_neg (by decide), e', contains_f xs hok hn a k (by omega), Option.bind_some]
        simp only [spec_PutInput.l0]
        rw [if_neg (show ¬ (xs.length : Int) < (xs.length : Int) by omega)]
        by_cases hu : xs.any (isIn a) = true
        · obtain ⟨r, e1, e2, e3⟩ := put_main xs ys a hok n2 ⟨m1, m2⟩ xs.length k' k 0 (List.replicate xs.length 0) ys (by omega) (by omega) (by omega) (by simp) (by omega)
          refine ⟨r, ?_, ?_, e3⟩
          · rw [if_pos hu, Option.bind_some, if_pos (by simp; omega), if_pos (by omega), if_pos (by omega), Int.toNat_natCast]
            exact e1
          · rw [if_pos hu, cloneN_f ys m2, Option.bind_some, if_pos (by omega), if_pos (by omega), Int.toNat_natCast]
            exact e2
        · refine ⟨(xs, true), ?_, ?_, n2⟩
          · rw [if_neg hu, Option.bind_some, if_pos (by simp; omega)]
            rfl
          · rw [if_neg hu, cloneN_f xs n2, Option.bind_some]
      · rw [if_pos hE, if_pos hE, if_pos hF, if_pos hF, Bool.eq_false_iff.2 ha]
        exact ⟨([], false), rfl, rfl, by simp⟩
    · rw [if_pos hE, if_pos hE, if_neg hF, if_neg hF]
      exact ⟨([], false), rfl, rfl, by simp⟩
  · rw [if_neg hE, if_neg hE]
    exact ⟨([], false), rfl, rfl, by simp⟩
end Go.Proofs.Ytlcplhcccgbmnaa.PureOps
