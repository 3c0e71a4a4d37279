/- RangeOf of the program and of the reference agree for all arguments. -/
import Derived.Test.YtaddadknmipfeaaPureRange
import Derived.Test.YtaddadknmipfeaaFSpecL1Least
namespace Go.Proofs.Ytaddadknmipfeaa.PureOps
open Go.RowKit Go.Proofs.Ytaddadknmipfeaa.F Go.Proofs.YtaddadknmipfeaaW.PrintWords Go.Proofs.YtaddadknmipfeaaW.PrintLast Go.Proofs.YtaddadknmipfeaaW.PrintMore Go.Proofs.Ytaddadknmipfeaa.MKinds
set_option linter.unusedVariables false
set_option linter.unusedSimpArgs false
theorem rangeOf_same (k : Nat) (xs : List INode) (hk : 4 * xs.length + 5960 < k) (hn : xs.length ≤ 1048576) :
    ∃ r, spec_RangeOf.f k xs = some r ∧ impl_RangeOf.f k xs = some r := by
  rw [range_f k xs (by omega) hn]
  unfold spec_RangeOf.f
  rw [good_f k xs (by omega) hn, Option.bind_some]
  by_cases hE : isE xs = true
  · rw [if_pos hE, if_pos hE, (table_f k xs hE (by omega)).1, Option.bind_some, range_s _ (tableL_length xs) (tableL_words xs hE) k (by omega)]
    exact ⟨_, rfl, rfl⟩
  · rw [if_neg hE, if_neg hE]
    exact ⟨_, rfl, rfl⟩
theorem rangeOf_true (xs : List LNode) (hn : xs.length ≤ 9223372036854775807) (hs : ∀ x ∈ xs, x.f0.size ≤ 9223372036854775807) : laws_FnExactRangeOf.f (4 * xs.length + 6000) xs = some true := by
  unfold laws_FnExactRangeOf.f
  obtain ⟨r, hr, _, hl⟩ := szNodeS_f (4 * xs.length + 6000) xs 1048576 (by omega) (by omega) hn hs (by omega)
  rw [hr, Option.bind_some]
  by_cases h : r < 0
  · rw [if_pos h]
  · rw [if_neg h]
    have hn2 : xs.length ≤ 1048576 := by have := hl (by omega); omega
    have hn3 : (xs.map convN).length ≤ 1048576 := by simpa using hn2
    have j0 : laws_FnExactRangeOf.j0 (4 * xs.length + 6000) xs (xs.map convN) false = some true := by
      rw [show 4 * xs.length + 6000 = (4 * xs.length + 5999) + 1 by omega]
      simp only [laws_FnExactRangeOf.j0]
      rw [if_neg (by decide), toNodeS_f (4 * xs.length + 5999) xs hn2 (by omega), Option.bind_some, eqNodeS_f (4 * xs.length + 5999) (xs.map convN) hn3 (by rw [List.length_map]; omega), Option.bind_some, if_pos rfl]
    rw [toNodeS_f (4 * xs.length + 6000) xs hn2 (by omega)]
    obtain ⟨q, h1, h2⟩ := rangeOf_same (4 * xs.length + 6000) (xs.map convN) (by rw [List.length_map]; omega) hn3
    simp only [Option.bind_some, h1, h2]
    simpa using j0
theorem rangeOf_walk (A : Option Addr) (c : Nat) (xs : List LNode) (hl0 : xs.length ≤ c) (W : World) (hr0 : Kd.C k87 W A xs.length xs) (hm0 : xs.length ≤ maxLen) (ho0 : ∀ x ∈ xs, nodeSOk x) :
    Calls Try.prog 20 #[.slice A xs.length c] W fun e w' => e = .returned (.bool true) ∧ Below W.heap.size W w' :=
  laws_FnExactRangeOf.calls (4 * xs.length + 6000) A c xs true W hr0 hl0 (rangeOf_true xs (len_ok hm0) (nodes_ok ho0)) rfl
end Go.Proofs.Ytaddadknmipfeaa.PureOps
