/- CodeCost of the program and of the reference agree for all arguments. -/
import Derived.Test.YtkagjppacjaokaaPureIsCode
import Derived.Test.YtkagjppacjaokaaPureCost
import Derived.Test.YtkagjppacjaokaaFSpecCdSum
namespace Go.Proofs.Ytkagjppacjaokaa.PureOps
open Go.RowKit Go.Proofs.Ytkagjppacjaokaa.F Go.Proofs.YtkagjppacjaokaaW.PrintWords Go.Proofs.YtkagjppacjaokaaW.PrintLast Go.Proofs.YtkagjppacjaokaaW.PrintMore Go.Proofs.Ytkagjppacjaokaa.MKinds
set_option linter.unusedVariables false
theorem codeOk_all {xs : List IInstr} (h : codeOk xs = true) : ∀ x ∈ xs, good1 x = true := by
  unfold codeOk at h
  simp only [Bool.and_eq_true, List.all_eq_true] at h
  exact h.2
theorem costs_same (xs : List IInstr) (h : codeOk xs = true) (hn : xs.length ≤ 1048576) (k : Nat) (hk : xs.length + 13 < k) : ∃ r, spec_cdSum.f k xs = some r ∧ impl_codeCost.f k xs = some r := by
  have hx := codeOk_all h
  have main : ∀ d (i k : Nat) (s : Int), i + d = xs.length → d + 13 < k → ∃ r, spec_cdSum.l0 k s xs (xs.length : Int) (i : Int) = some r ∧ impl_codeCost.l0 k s xs (xs.length : Int) (i : Int) = some r := by
    intro d
    induction d with
    | zero =>
      intro i k s hi hk
      obtain ⟨k, rfl⟩ : ∃ m, k = m + 1 := ⟨k - 1, by omega⟩
      refine ⟨s, ?_, ?_⟩
      · simp only [spec_cdSum.l0]; rw [if_neg (by omega)]
      · simp only [impl_codeCost.l0]; rw [if_neg (by omega)]
    | succ d ih =>
      intro i k s hi hk
      obtain ⟨k, rfl⟩ : ∃ m, k = m + 1 := ⟨k - 1, by omega⟩
      have hil : i < xs.length := by omega
      obtain ⟨r, h1, h2⟩ := ih (i + 1) k (wrap64 (s + costOf xs[i].f0.toList)) (by omega) (by omega)
      have hc := shape_cost (goodI_op (show goodI xs[i].f0.toList xs[i].f1 xs[i].f2 xs[i].f3 xs[i].f4 = true from hx _ (List.getElem_mem hil)))
      refine ⟨r, ?_, ?_⟩
      · simp only [spec_cdSum.l0]
        rw [if_pos (by omega), if_pos (by omega), if_pos (by omega), rdI xs i hil, cdCost_f, Option.bind_some, wrapS hil (by omega)]
        exact h1
      · simp only [impl_codeCost.l0]
        rw [if_pos (by omega), if_pos (by omega), if_pos (by omega), rdI xs i hil, instrCost_f k (by omega), Option.bind_some, hc, wrapS hil (by omega)]
        exact h2
  obtain ⟨r, h1, h2⟩ := main xs.length 0 k 0 (by omega) (by omega)
  exact ⟨r, h1, h2⟩
theorem codeCost_true (xs : List LInstr) (hn : xs.length ≤ 9223372036854775807) (hs : ∀ x ∈ xs, x.f0.size ≤ 9223372036854775807) : laws_FnExactCodeCost.f (xs.length + 100) xs = some true := by
  unfold laws_FnExactCodeCost.f
  obtain ⟨r, hr, _, hl⟩ := szInstrS_f (xs.length + 100) xs 1048576 (by omega) (by omega) hn hs (by omega)
  rw [hr, Option.bind_some]
  by_cases h : r < 0
  · rw [if_pos h]
  · rw [if_neg h]
    have hn2 : xs.length ≤ 1048576 := by have := hl (by omega); omega
    have hn3 : (xs.map convI).length ≤ 1048576 := by simpa using hn2
    have j0 : laws_FnExactCodeCost.j0 (xs.length + 100) xs (xs.map convI) false = some true := by
      rw [show xs.length + 100 = (xs.length + 99) + 1 from rfl]
      simp only [laws_FnExactCodeCost.j0]
      rw [if_neg (by decide), toInstrS_f (xs.length + 99) xs hn2 (by omega), Option.bind_some, eqInstrS_f (xs.length + 99) (xs.map convI) hn3 (by simp), Option.bind_some, if_pos rfl]
    rw [toInstrS_f (xs.length + 100) xs hn2 (by omega)]
    simp only [Option.bind_some, spec_CodeCost.f, impl_CodeCost.f]
    rw [cdCode_f (xs.length + 100) (xs.map convI) hn3 (by simp), isCode_f (xs.length + 100) (xs.map convI) hn3 (by simp)]
    cases hc : codeOk (xs.map convI) with
    | false => simpa using j0
    | true =>
      obtain ⟨q, h1, h2⟩ := costs_same (xs.map convI) hc hn3 (xs.length + 100) (by simp)
      simp only [Option.bind_some, if_true, h1, h2]
      simpa using j0
theorem codeCost_walk (A : Option Addr) (c : Nat) (xs : List LInstr) (hl : xs.length ≤ c) (W : World) (hr : Kd.C k23 W A xs.length xs) (hm : xs.length ≤ maxLen) (ho : ∀ x ∈ xs, instrSOk x) :
    Calls Try.prog 6 #[.slice A xs.length c] W fun e w' => e = .returned (.bool true) ∧ Below W.heap.size W w' :=
  laws_FnExactCodeCost.calls (xs.length + 100) A c xs true W hr hl (codeCost_true xs (len_ok hm) (instrs_ok ho)) rfl
end Go.Proofs.Ytkagjppacjaokaa.PureOps
