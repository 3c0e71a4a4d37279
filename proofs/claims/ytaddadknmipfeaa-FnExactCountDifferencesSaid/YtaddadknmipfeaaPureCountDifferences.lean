/- CountDifferences of the program and of the reference agree for all arguments. -/
import Derived.Test.YtaddadknmipfeaaPureDiff
import Derived.Test.YtaddadknmipfeaaFSpecCountDifferences
namespace Go.Proofs.Ytaddadknmipfeaa.PureOps
open Go.RowKit Go.Proofs.Ytaddadknmipfeaa.F Go.Proofs.YtaddadknmipfeaaW.PrintWords Go.Proofs.YtaddadknmipfeaaW.PrintLast Go.Proofs.YtaddadknmipfeaaW.PrintMore Go.Proofs.Ytaddadknmipfeaa.MKinds
set_option linter.unusedVariables false
set_option linter.unusedSimpArgs false
theorem count_main (A B : List Int) (hA : A.length ≤ 4096) (hB : A.length = B.length) (d : Nat) : ∀ (k i : Nat) (n : Int), i + d = A.length → d < k → 0 ≤ n → n ≤ i →
    spec_CountDifferences.l0 k B n A (A.length : Int) (i : Int) = some (n + ((diffFrom A B i).length : Int), true) := by
  induction d with
  | zero =>
    intro k i n h hk h0 h1
    obtain ⟨k, rfl⟩ : ∃ m, k = m + 1 := ⟨k - 1, by omega⟩
    obtain rfl : i = A.length := by omega
    simp only [spec_CountDifferences.l0]
    rw [if_neg (by omega), diff_end]
    simp
  | succ d ih =>
    intro k i n h hk h0 h1
    obtain ⟨k, rfl⟩ : ∃ m, k = m + 1 := ⟨k - 1, by omega⟩
    have hi : i < A.length := by omega
    simp only [spec_CountDifferences.l0]
    rw [if_pos (by omega), if_pos (by omega), if_pos (by omega), if_pos (by omega), wrapS hi (by omega)]
    by_cases e : rd A (i : Int) = rd B (i : Int)
    · rw [if_pos e, ih k (i + 1) n (by omega) (by omega) h0 (by omega), diff_same A B hi e.symm]
    · rw [if_neg e, wrap64_small (n := n + 1) (by omega) (by omega), ih k (i + 1) (n + 1) (by omega) (by omega) (by omega) (by omega), diff_other A B hi (fun h => e h.symm), List.length_cons]
      rw [show n + 1 + ((diffFrom A B (i + 1)).length : Int) = n + (((diffFrom A B (i + 1)).length + 1 : Nat) : Int) by omega]
theorem countDifferences_same (k : Nat) (xs ys : List INode) (hk : 4 * xs.length + 4 * ys.length + 5960 < k) (hn : xs.length ≤ 1048576) (hm : ys.length ≤ 1048576) :
    ∃ r, spec_CountDifferences.f k xs ys = some r ∧ impl_CountDifferences.f k xs ys = some r := by
  unfold spec_CountDifferences.f impl_CountDifferences.f
  rw [compared_f k xs ys (by omega) hn hm]
  obtain ⟨k, rfl⟩ : ∃ m, k = m + 1 := ⟨k - 1, by omega⟩
  rw [good_f (k + 1) xs (by omega) hn, good_f (k + 1) ys (by omega) hm]
  simp only [Option.bind_some, spec_CountDifferences.j0]
  by_cases hE : isE xs = true
  · by_cases hF : isE ys = true
    · have hA := tableL_length xs
      have hB := tableL_length ys
      have h1 := count_main (tableL xs) (tableL ys) (by omega) (by omega) (tableL xs).length k 0 0 (by omega) (by omega) (by omega) (by omega)
      have h2 := differences_f (k + 1) (tableL xs) (tableL ys) (by omega) (by omega) (by omega)
      have h1' : spec_CountDifferences.l0 k (tableL ys) 0 (tableL xs) ((tableL xs).length : Int) 0 = some (((diffFrom (tableL xs) (tableL ys) 0).length : Int), true) := by
        rw [Int.zero_add] at h1; exact h1
      refine ⟨(((diffFrom (tableL xs) (tableL ys) 0).length : Int), true), ?_, ?_⟩
      · rw [if_pos hE, hF, if_neg (by decide), (table_f k xs hE (by omega)).1, (table_f k ys hF (by omega)).1, Option.bind_some, Option.bind_some]
        exact h1'
      · simp only [if_pos (And.intro hE hF), h2, Option.bind_some]
    · have h2 := differences_f (k + 1) [] [] (by simp) rfl (by omega)
      refine ⟨(0, false), ?_, ?_⟩
      · rw [if_pos hE, Bool.eq_false_iff.2 hF, if_pos (by decide)]
      · simp only [if_neg (fun h : isE xs = true ∧ isE ys = true => hF h.2), h2, Option.bind_some]
        rfl
  · have h2 := differences_f (k + 1) [] [] (by simp) rfl (by omega)
    refine ⟨(0, false), ?_, ?_⟩
    · rw [if_neg hE, if_pos trivial]
    · simp only [if_neg (fun h : isE xs = true ∧ isE ys = true => hE h.1), h2, Option.bind_some]
      rfl
theorem countDifferences_true (xs ys : List LNode) (hn : xs.length ≤ 9223372036854775807) (hs : ∀ x ∈ xs, x.f0.size ≤ 9223372036854775807) (hn' : ys.length ≤ 9223372036854775807) (hs' : ∀ x ∈ ys, x.f0.size ≤ 9223372036854775807) : laws_FnExactCountDifferences.f (4 * xs.length + 4 * ys.length + 6000) xs ys = some true := by
  unfold laws_FnExactCountDifferences.f
  obtain ⟨r, hr, hb, hl⟩ := szNodeS_f (4 * xs.length + 4 * ys.length + 6000) xs 1048576 (by omega) (by omega) hn hs (by omega)
  rw [hr, Option.bind_some]
  by_cases h : r < 0
  · rw [if_pos h]
  · rw [if_neg h]
    obtain ⟨r', hr', _, hl'⟩ := szNodeS_f (4 * xs.length + 4 * ys.length + 6000) ys r (by omega) hb hn' hs' (by omega)
    rw [hr', Option.bind_some]
    by_cases h' : r' < 0
    · rw [if_pos h']
    · rw [if_neg h']
      have hn2 : xs.length ≤ 1048576 := by have := hl (by omega); omega
      have hn3 : (xs.map convN).length ≤ 1048576 := by simpa using hn2
      have hn4 : ys.length ≤ 1048576 := by have := hl' (by omega); omega
      have hn5 : (ys.map convN).length ≤ 1048576 := by simpa using hn4
      have j0 : laws_FnExactCountDifferences.j0 (4 * xs.length + 4 * ys.length + 6000) xs ys (xs.map convN) (ys.map convN) false = some true := by
        rw [show 4 * xs.length + 4 * ys.length + 6000 = (4 * xs.length + 4 * ys.length + 5999) + 1 by omega]
        simp only [laws_FnExactCountDifferences.j0]
        rw [if_neg (by decide), toNodeS_f (4 * xs.length + 4 * ys.length + 5999) xs hn2 (by omega), Option.bind_some, eqNodeS_f (4 * xs.length + 4 * ys.length + 5999) (xs.map convN) hn3 (by rw [List.length_map]; omega), Option.bind_some, if_pos rfl, toNodeS_f (4 * xs.length + 4 * ys.length + 5999) ys hn4 (by omega), Option.bind_some, eqNodeS_f (4 * xs.length + 4 * ys.length + 5999) (ys.map convN) hn5 (by rw [List.length_map]; omega), Option.bind_some, if_pos rfl]
      rw [toNodeS_f (4 * xs.length + 4 * ys.length + 6000) xs hn2 (by omega), toNodeS_f (4 * xs.length + 4 * ys.length + 6000) ys hn4 (by omega)]
      obtain ⟨q, h1, h2⟩ := countDifferences_same (4 * xs.length + 4 * ys.length + 6000) (xs.map convN) (ys.map convN) (by rw [List.length_map, List.length_map]; omega) hn3 hn5
      simp only [Option.bind_some, h1, h2]
      simpa using j0
theorem countDifferences_walk (A : Option Addr) (c : Nat) (xs : List LNode) (hl0 : xs.length ≤ c) (W : World) (hr0 : Kd.C k87 W A xs.length xs) (hm0 : xs.length ≤ maxLen) (ho0 : ∀ x ∈ xs, nodeSOk x) (B : Option Addr) (d : Nat) (ys : List LNode) (hl1 : ys.length ≤ d) (hr1 : Kd.C k87 W B ys.length ys) (hm1 : ys.length ≤ maxLen) (ho1 : ∀ x ∈ ys, nodeSOk x) :
    Calls Try.prog 13 #[.slice A xs.length c, .slice B ys.length d] W fun e w' => e = .returned (.bool true) ∧ Below W.heap.size W w' :=
  laws_FnExactCountDifferences.calls (4 * xs.length + 4 * ys.length + 6000) A c xs B d ys true W hr0 hl0 hr1 hl1 (countDifferences_true xs ys (len_ok hm0) (nodes_ok ho0) (len_ok hm1) (nodes_ok ho1)) rfl
end Go.Proofs.Ytaddadknmipfeaa.PureOps
