/- DependsOn of the program and of the reference agree for all arguments. -/
import Derived.Test.YtaddadknmipfeaaPureWitness
import Derived.Test.YtaddadknmipfeaaFSpecDependsOn
namespace Go.Proofs.Ytaddadknmipfeaa.PureOps
open Go.RowKit Go.Proofs.Ytaddadknmipfeaa.F Go.Proofs.YtaddadknmipfeaaW.PrintWords Go.Proofs.YtaddadknmipfeaaW.PrintLast Go.Proofs.YtaddadknmipfeaaW.PrintMore Go.Proofs.Ytaddadknmipfeaa.MKinds
set_option linter.unusedVariables false
set_option linter.unusedSimpArgs false
theorem dependsOn_same (k : Nat) (xs : List INode) (a : Int) (hk : 4 * xs.length + 300960 < k) (hn : xs.length ≤ 1048576) :
    ∃ r, spec_DependsOn.f k xs a = some r ∧ impl_DependsOn.f k xs a = some r := by
  unfold spec_DependsOn.f impl_DependsOn.f
  rw [good_f k xs (by omega) hn, l1In_f, wit_i k xs a (by omega) hn, isExpr_f k xs (by omega) hn, within_f]
  simp only [Option.bind_some, dependWitness_res]
  by_cases hE : isE xs = true
  · by_cases ha : (decide (0 ≤ a) && decide (a ≤ 1)) = true
    · rw [if_pos (show isE xs = true ∧ (decide (0 ≤ a) && decide (a ≤ 1)) = true from ⟨hE, ha⟩), if_pos hE, if_pos hE, if_pos ha, (wit_s k xs a hE (by omega)).1, Option.bind_some, ha]
      exact ⟨_, rfl, rfl⟩
    · rw [if_neg (show ¬ (isE xs = true ∧ (decide (0 ≤ a) && decide (a ≤ 1)) = true) from fun h => ha h.2), if_pos hE, if_pos hE, if_neg ha, Bool.eq_false_iff.2 ha]
      exact ⟨_, rfl, rfl⟩
  · rw [if_neg (show ¬ (isE xs = true ∧ (decide (0 ≤ a) && decide (a ≤ 1)) = true) from fun h => hE h.1), if_neg hE, if_neg hE]
    exact ⟨_, rfl, rfl⟩
theorem dependsOn_true (xs : List LNode) (a : Int) (hn : xs.length ≤ 9223372036854775807) (hs : ∀ x ∈ xs, x.f0.size ≤ 9223372036854775807) : laws_FnExactDependsOn.f (4 * xs.length + 301000) xs a = some true := by
  unfold laws_FnExactDependsOn.f
  obtain ⟨r, hr, _, hl⟩ := szNodeS_f (4 * xs.length + 301000) xs 1048576 (by omega) (by omega) hn hs (by omega)
  rw [hr, Option.bind_some]
  by_cases h : r < 0
  · rw [if_pos h]
  · rw [if_neg h]
    have hn2 : xs.length ≤ 1048576 := by have := hl (by omega); omega
    have hn3 : (xs.map convN).length ≤ 1048576 := by simpa using hn2
    have j0 : laws_FnExactDependsOn.j0 (4 * xs.length + 301000) xs (xs.map convN) false = some true := by
      rw [show 4 * xs.length + 301000 = (4 * xs.length + 300999) + 1 by omega]
      simp only [laws_FnExactDependsOn.j0]
      rw [if_neg (by decide), toNodeS_f (4 * xs.length + 300999) xs hn2 (by omega), Option.bind_some, eqNodeS_f (4 * xs.length + 300999) (xs.map convN) hn3 (by rw [List.length_map]; omega), Option.bind_some, if_pos rfl]
    rw [toNodeS_f (4 * xs.length + 301000) xs hn2 (by omega)]
    obtain ⟨q, h1, h2⟩ := dependsOn_same (4 * xs.length + 301000) (xs.map convN) a (by rw [List.length_map]; omega) hn3
    simp only [Option.bind_some, h1, h2]
    simpa using j0
theorem dependsOn_walk (A : Option Addr) (c : Nat) (xs : List LNode) (hl0 : xs.length ≤ c) (W : World) (hr0 : Kd.C k87 W A xs.length xs) (hm0 : xs.length ≤ maxLen) (ho0 : ∀ x ∈ xs, nodeSOk x) (a : Int) (_ : (Lit.int .i64 a).wf = true) :
    Calls Try.prog 18 #[.slice A xs.length c, .int .i64 a] W fun e w' => e = .returned (.bool true) ∧ Below W.heap.size W w' :=
  laws_FnExactDependsOn.calls (4 * xs.length + 301000) A c xs a true W hr0 hl0 (dependsOn_true xs a (len_ok hm0) (nodes_ok ho0)) rfl
end Go.Proofs.Ytaddadknmipfeaa.PureOps
