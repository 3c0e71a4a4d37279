/- CountOps of the program and of the reference agree for all arguments. -/
import Derived.Test.YtamahlhoainocaaPureIsExpr0
import Derived.Test.YtamahlhoainocaaFSpecExCount
namespace Go.Proofs.Ytamahlhoainocaa.PureOps
open Go.RowKit Go.Proofs.Ytamahlhoainocaa.F Go.Proofs.YtamahlhoainocaaW.PrintWords Go.Proofs.YtamahlhoainocaaW.PrintLast Go.Proofs.YtamahlhoainocaaW.PrintMore Go.Proofs.Ytamahlhoainocaa.MKinds
set_option linter.unusedVariables false
theorem parts_pos (o : List UInt8) (a b : Int) : decide (((parts o a b).length : Int) > 0) = decide (ops o > 0) := by
  unfold parts
  by_cases h1 : one o = true
  · rw [if_pos h1, ops_one.2 h1]; rfl
  · rw [if_neg h1]
    by_cases h2 : two o = true
    · rw [if_pos h2, ops_two.2 h2]; rfl
    · rw [if_neg h2]
      have := (ops_lt o).2 ⟨by simpa using h1, by simpa using h2⟩
      rw [decide_eq_false (show ¬ ops o > 0 by omega)]; rfl
theorem counts_same (xs : List INode) (hn : xs.length ≤ 1048576) (d : Nat) : ∀ (k i : Nat) (s : Int), i + d = xs.length → d + 20 < k → 0 ≤ s → s ≤ i →
    ∃ r, spec_exCount.l0 k s xs (xs.length : Int) (i : Int) = some r ∧ impl_CountOps.l0 k s xs (xs.length : Int) (i : Int) = some (r, true) := by
  induction d with
  | zero =>
    intro k i s h hk h0 h1
    obtain ⟨k, rfl⟩ : ∃ m, k = m + 1 := ⟨k - 1, by omega⟩
    refine ⟨s, ?_, ?_⟩
    · simp only [spec_exCount.l0]; rw [if_neg (by omega)]
    · simp only [impl_CountOps.l0]; rw [if_neg (by omega)]
  | succ d ih =>
    intro k i s h hk h0 h1
    obtain ⟨k, rfl⟩ : ∃ m, k = m + 1 := ⟨k - 1, by omega⟩
    have hi : i < xs.length := by omega
    have hp := parts_pos xs[i].f0.toList xs[i].f1 xs[i].f2
    by_cases hc : ops xs[i].f0.toList > 0
    · obtain ⟨r, h1, h2⟩ := ih k (i + 1) (s + 1) (by omega) (by omega) (by omega) (by omega)
      rw [decide_eq_true hc, decide_eq_true_eq] at hp
      refine ⟨r, ?_, ?_⟩
      · simp only [spec_exCount.l0]
        rw [if_pos (by omega), if_pos (by omega), if_pos (by omega), rdI xs i hi, exParts_f k (by omega), Option.bind_some, if_pos hp, wrapS hi (by omega), wrap64_small (by omega) (by omega)]
        exact h1
      · simp only [impl_CountOps.l0]
        rw [if_pos (by omega), if_pos (by omega), if_pos (by omega), rdI xs i hi, operands_f k (by omega), Option.bind_some, decide_eq_true hc, wrapS hi (by omega)]
        show impl_CountOps.l0 k (wrap64 (s + 1)) xs _ _ = _
        rw [wrap64_small (by omega) (by omega)]
        exact h2
    · obtain ⟨r, h1, h2⟩ := ih k (i + 1) s (by omega) (by omega) (by omega) (by omega)
      rw [decide_eq_false hc, decide_eq_false_iff_not] at hp
      refine ⟨r, ?_, ?_⟩
      · simp only [spec_exCount.l0]
        rw [if_pos (by omega), if_pos (by omega), if_pos (by omega), rdI xs i hi, exParts_f k (by omega), Option.bind_some, if_neg hp, wrapS hi (by omega)]
        exact h1
      · simp only [impl_CountOps.l0]
        rw [if_pos (by omega), if_pos (by omega), if_pos (by omega), rdI xs i hi, operands_f k (by omega), Option.bind_some, decide_eq_false hc, wrapS hi (by omega)]
        show impl_CountOps.l0 k (wrap64 (s + 0)) xs _ _ = _
        rw [wrap64_small (by omega) (by omega), Int.add_zero]
        exact h2
theorem countOps_true (xs : List LNode) (hn : xs.length ≤ 9223372036854775807) (hs : ∀ x ∈ xs, x.f0.size ≤ 9223372036854775807) : laws_FnExactCountOps.f (4 * xs.length + 100) xs = some true := by
  unfold laws_FnExactCountOps.f
  obtain ⟨r, hr, _, hl⟩ := szNodeS_f (4 * xs.length + 100) xs 1048576 (by omega) (by omega) hn hs (by omega)
  rw [hr, Option.bind_some]
  by_cases h : r < 0
  · rw [if_pos h]
  · rw [if_neg h]
    have hn2 : xs.length ≤ 1048576 := by have := hl (by omega); omega
    have hn3 : (xs.map convN).length ≤ 1048576 := by simpa using hn2
    have j0 : laws_FnExactCountOps.j0 (4 * xs.length + 100) xs (xs.map convN) false = some true := by
      rw [show 4 * xs.length + 100 = (4 * xs.length + 99) + 1 from rfl]
      simp only [laws_FnExactCountOps.j0]
      rw [if_neg (by decide), toNodeS_f (4 * xs.length + 99) xs hn2 (by omega), Option.bind_some, eqNodeS_f (4 * xs.length + 99) (xs.map convN) hn3 (by simp; omega), Option.bind_some, if_pos rfl]
    rw [toNodeS_f (4 * xs.length + 100) xs hn2 (by omega)]
    simp only [Option.bind_some, spec_CountOps.f, impl_CountOps.f]
    rw [good_f (4 * xs.length + 100) (xs.map convN) (by simp) hn3, isExpr_f (4 * xs.length + 100) (xs.map convN) (by simp) hn3]
    cases hc : isE (xs.map convN) with
    | false => simpa using j0
    | true =>
      obtain ⟨q, h1, h2⟩ := counts_same (xs.map convN) hn3 (xs.map convN).length (4 * xs.length + 100) 0 0 (by omega) (by simp; omega) (by omega) (by omega)
      have h1' : spec_exCount.f (4 * xs.length + 100) (xs.map convN) = some q := h1
      have h2' : impl_CountOps.l0 (4 * xs.length + 100) 0 (xs.map convN) ((xs.map convN).length : Int) 0 = some (q, true) := h2
      simp only [Option.bind_some, if_true, h1', h2']
      simpa using j0
theorem countOps_walk (A : Option Addr) (c : Nat) (xs : List LNode) (hl : xs.length ≤ c) (W : World) (hr : Kd.C k88 W A xs.length xs) (hm : xs.length ≤ maxLen) (ho : ∀ x ∈ xs, nodeSOk x) :
    Calls Try.prog 6 #[.slice A xs.length c] W fun e w' => e = .returned (.bool true) ∧ Below W.heap.size W w' :=
  laws_FnExactCountOps.calls (4 * xs.length + 100) A c xs true W hr hl (countOps_true xs (len_ok hm) (nodes_ok ho)) rfl
end Go.Proofs.Ytamahlhoainocaa.PureOps
