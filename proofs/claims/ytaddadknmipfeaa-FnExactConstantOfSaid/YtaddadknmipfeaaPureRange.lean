/- The least and the greatest value of an expression: one answer of both sides. Plain. -/
import Derived.Test.YtaddadknmipfeaaPureTable
import Derived.Test.YtaddadknmipfeaaFSpecL1Least
import Derived.Test.YtaddadknmipfeaaFSlicesMinIntInt
namespace Go.Proofs.Ytaddadknmipfeaa.PureOps
open Go.RowKit Go.Proofs.Ytaddadknmipfeaa.F Go.Proofs.YtaddadknmipfeaaW.PrintWords Go.Proofs.YtaddadknmipfeaaW.PrintLast Go.Proofs.YtaddadknmipfeaaW.PrintMore Go.Proofs.Ytaddadknmipfeaa.MKinds
set_option linter.unusedVariables false
set_option linter.unusedSimpArgs false
theorem least_f (a b : Int) : spec_l1Least.f a b = some (mn a b) := by
  unfold spec_l1Least.f mn
  by_cases h : a < b
  · rw [if_pos h]; split <;> first | rfl | (congr 1; omega)
  · rw [if_neg h]; split <;> first | rfl | (congr 1; omega)
theorem most_f (a b : Int) : spec_l1Most.f a b = some (mx a b) := by
  unfold spec_l1Most.f mx
  by_cases h : a > b
  · rw [if_pos h]; split <;> first | rfl | (congr 1; omega)
  · rw [if_neg h]; split <;> first | rfl | (congr 1; omega)
theorem range_main (T : List Int) (hT : T.length = 4096) (d : Nat) : ∀ (k i : Nat) (lo hi : Int), i + d = T.length → d < k →
    spec_RangeOf.l0 k lo hi T (T.length : Int) (i : Int) = some ((T.drop i).foldl mn lo, (T.drop i).foldl mx hi, true) ∧ slices_Min_int_int.l0 k T lo (i : Int) = some ((T.drop i).foldl mn lo) ∧ slices_Max_int_int.l0 k T hi (i : Int) = some ((T.drop i).foldl mx hi) := by
  induction d with
  | zero =>
    intro k i lo hi h hk
    obtain ⟨k, rfl⟩ : ∃ m, k = m + 1 := ⟨k - 1, by omega⟩
    simp only [spec_RangeOf.l0, slices_Min_int_int.l0, slices_Max_int_int.l0]
    rw [if_neg (by omega), if_neg (by omega), if_neg (by omega), List.drop_eq_nil_of_le (by omega)]
    exact ⟨rfl, rfl, rfl⟩
  | succ d ih =>
    intro k i lo hi h hk
    obtain ⟨k, rfl⟩ : ∃ m, k = m + 1 := ⟨k - 1, by omega⟩
    have hi' : i < T.length := by omega
    obtain ⟨h1, h2, h3⟩ := ih k (i + 1) (mn lo T[i]) (mx hi T[i]) (by omega) (by omega)
    rw [List.drop_eq_getElem_cons hi', List.foldl_cons, List.foldl_cons]
    refine ⟨?_, ?_, ?_⟩
    · simp only [spec_RangeOf.l0]
      rw [if_pos (by omega), if_pos (by omega), if_pos (by omega), rd_get T i hi', least_f, Option.bind_some, most_f, Option.bind_some, wrapS hi' (by omega)]
      exact h1
    · simp only [slices_Min_int_int.l0]
      rw [if_pos (by omega), if_pos (by omega), rd_get T i hi', wrapS hi' (by omega)]
      exact h2
    · simp only [slices_Max_int_int.l0]
      rw [if_pos (by omega), if_pos (by omega), rd_get T i hi', wrapS hi' (by omega)]
      exact h3
def lowL (T : List Int) : Int := (T.drop 1).foldl mn (rd T 0)
def highL (T : List Int) : Int := (T.drop 1).foldl mx (rd T 0)
theorem range_s (T : List Int) (hT : T.length = 4096) (hw : words T) (k : Nat) (hk : 5000 < k) : spec_RangeOf.l0 k 63 0 T (T.length : Int) 0 = some (lowL T, highL T, true) := by
  have h := (range_main T hT T.length k 0 63 0 (by omega) (by omega)).1
  have h0 : 0 < T.length := by omega
  have hb := hw _ (List.getElem_mem h0)
  rw [List.drop_eq_getElem_cons h0, List.foldl_cons, List.foldl_cons] at h
  have e1 : mn 63 T[0] = T[0] := by unfold mn; split <;> omega
  have e2 : mx 0 T[0] = T[0] := by unfold mx; split <;> omega
  have e3 : rd T 0 = T[0] := rd_get T 0 h0
  rw [e1, e2] at h
  unfold lowL highL
  rw [e3]
  exact h
theorem range_i (T : List Int) (hT : T.length = 4096) (k : Nat) (hk : 5000 < k) : slices_Min_int_int.f k T = some (lowL T) ∧ slices_Max_int_int.f k T = some (highL T) := by
  obtain ⟨k, rfl⟩ : ∃ m, k = m + 1 := ⟨k - 1, by omega⟩
  obtain ⟨_, h2, h3⟩ := range_main T hT 4095 k 1 (rd T 0) (rd T 0) (by omega) (by omega)
  unfold slices_Min_int_int.f slices_Max_int_int.f
  rw [if_neg (by omega), if_neg (by omega)]
  simp only [slices_Min_int_int.j0, slices_Max_int_int.j0]
  rw [if_pos (by omega), if_pos (by omega)]
  exact ⟨h2, h3⟩
theorem range_f (k : Nat) (xs : List INode) (hk : 4 * xs.length + 5900 < k) (hn : xs.length ≤ 1048576) :
    impl_RangeOf.f k xs = some (if isE xs = true then (lowL (tableL xs), highL (tableL xs), true) else (0, 0, false)) := by
  unfold impl_RangeOf.f
  rw [isExpr_f k xs (by omega) hn, Option.bind_some]
  by_cases hE : isE xs = true
  · obtain ⟨h1, h2⟩ := range_i _ (tableL_length xs) k (by omega)
    rw [if_pos hE, if_pos hE, (table_f k xs hE (by omega)).2, Option.bind_some, h1, Option.bind_some, h2, Option.bind_some]
  · rw [if_neg hE, if_neg hE]
end Go.Proofs.Ytaddadknmipfeaa.PureOps
