/- The places at which two lists differ, in order. Plain. -/
import Derived.Test.YtaddadknmipfeaaPureCompared
import Derived.Test.YtaddadknmipfeaaFImplDifferences
namespace Go.Proofs.Ytaddadknmipfeaa.PureOps
open Go.RowKit Go.Proofs.Ytaddadknmipfeaa.F Go.Proofs.YtaddadknmipfeaaW.PrintWords Go.Proofs.YtaddadknmipfeaaW.PrintLast Go.Proofs.YtaddadknmipfeaaW.PrintMore Go.Proofs.Ytaddadknmipfeaa.MKinds
set_option linter.unusedVariables false
set_option linter.unusedSimpArgs false
def diffFrom (A B : List Int) (i : Nat) : List Int := (((List.range A.length).drop i).filter (fun (j : Nat) => !(decide (rd B (j : Int) = rd A (j : Int))))).map (fun (j : Nat) => (j : Int))
theorem diff_end (A B : List Int) : diffFrom A B A.length = [] := by unfold diffFrom; rw [List.drop_eq_nil_of_le (by simp)]; rfl
theorem diff_same (A B : List Int) {i : Nat} (h : i < A.length) (e : rd B (i : Int) = rd A (i : Int)) : diffFrom A B i = diffFrom A B (i + 1) := by
  unfold diffFrom
  rw [List.drop_eq_getElem_cons (show i < (List.range A.length).length by simpa using h), List.getElem_range, List.filter_cons_of_neg (by simp [e])]
theorem diff_other (A B : List Int) {i : Nat} (h : i < A.length) (e : ¬ rd B (i : Int) = rd A (i : Int)) : diffFrom A B i = (i : Int) :: diffFrom A B (i + 1) := by
  unfold diffFrom
  rw [List.drop_eq_getElem_cons (show i < (List.range A.length).length by simpa using h), List.getElem_range, List.filter_cons_of_pos (by simp [e]), List.map_cons]
theorem diff_mem (A B : List Int) (i : Nat) : ∀ p ∈ diffFrom A B i, 0 ≤ p ∧ p < A.length := by
  intro p hp
  unfold diffFrom at hp
  obtain ⟨j, hj, rfl⟩ := List.mem_map.1 hp
  have := List.mem_range.1 (List.mem_of_mem_drop (List.mem_filter.1 hj).1)
  exact ⟨by omega, by omega⟩
theorem diff_len (A B : List Int) (i : Nat) : (diffFrom A B i).length ≤ A.length - i := by
  unfold diffFrom
  rw [List.length_map]
  exact Nat.le_trans (List.length_filter_le _ _) (by simp)
theorem diff_main (A B : List Int) (hA : A.length ≤ 4096) (hB : A.length = B.length) (d : Nat) : ∀ (k i : Nat) (u : List Int), i + d = A.length → d < k → u.length ≤ i →
    impl_differences.l0 k B u A (A.length : Int) (i : Int) = some (u ++ diffFrom A B i) := by
  induction d with
  | zero =>
    intro k i u h hk hu
    obtain ⟨k, rfl⟩ : ∃ m, k = m + 1 := ⟨k - 1, by omega⟩
    obtain rfl : i = A.length := by omega
    simp only [impl_differences.l0]
    rw [if_neg (by omega), diff_end, List.append_nil]
  | succ d ih =>
    intro k i u h hk hu
    obtain ⟨k, rfl⟩ : ∃ m, k = m + 1 := ⟨k - 1, by omega⟩
    have hi : i < A.length := by omega
    simp only [impl_differences.l0]
    rw [if_pos (by omega), if_pos (by omega), if_pos (by omega), if_pos (by omega), wrapS hi (by omega)]
    by_cases e : rd B (i : Int) = rd A (i : Int)
    · rw [if_pos e, ih k (i + 1) u (by omega) (by omega) (by omega), diff_same A B hi e]
    · rw [if_neg e, if_pos (by omega), ih k (i + 1) _ (by omega) (by omega) (by simp; omega), diff_other A B hi e, List.append_assoc]
      rfl
theorem differences_f (k : Nat) (A B : List Int) (hA : A.length ≤ 4096) (hB : A.length = B.length) (hk : 4200 < k) : impl_differences.f k A B = some (diffFrom A B 0) := by
  unfold impl_differences.f
  exact diff_main A B hA hB A.length k 0 [] (by omega) (by omega) (by simp)
end Go.Proofs.Ytaddadknmipfeaa.PureOps
