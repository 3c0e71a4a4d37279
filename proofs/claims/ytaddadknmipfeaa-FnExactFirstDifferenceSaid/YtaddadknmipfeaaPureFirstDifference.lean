/- FirstDifference of the program and of the reference agree for all arguments. -/
import Derived.Test.YtaddadknmipfeaaPureDiff
import Derived.Test.YtaddadknmipfeaaFSpecEqFirst
namespace Go.Proofs.Ytaddadknmipfeaa.PureOps
open Go.RowKit Go.Proofs.Ytaddadknmipfeaa.F Go.Proofs.YtaddadknmipfeaaW.PrintWords Go.Proofs.YtaddadknmipfeaaW.PrintLast Go.Proofs.YtaddadknmipfeaaW.PrintMore Go.Proofs.Ytaddadknmipfeaa.MKinds
set_option linter.unusedVariables false
set_option linter.unusedSimpArgs false
def headOr (D : List Int) : Int := match D with | [] => -1 | p :: _ => p
theorem first_main (A B : List Int) (hA : A.length ≤ 4096) (hB : A.length = B.length) (d : Nat) : ∀ (k i : Nat), i + d = A.length → d < k →
    spec_eqFirst.l0 k B A (A.length : Int) (i : Int) = some (headOr (diffFrom A B i)) := by
  induction d with
  | zero =>
    intro k i h hk
    obtain ⟨k, rfl⟩ : ∃ m, k = m + 1 := ⟨k - 1, by omega⟩
    obtain rfl : i = A.length := by omega
    simp only [spec_eqFirst.l0]
    rw [if_neg (by omega), diff_end]
    rfl
  | succ d ih =>
    intro k i h hk
    obtain ⟨k, rfl⟩ : ∃ m, k = m + 1 := ⟨k - 1, by omega⟩
    have hi : i < A.length := by omega
    simp only [spec_eqFirst.l0]
    rw [if_pos (by omega), if_pos (by omega), if_pos (by omega), if_pos (by omega), wrapS hi (by omega)]
    by_cases e : rd A (i : Int) = rd B (i : Int)
    · rw [if_pos e, ih k (i + 1) (by omega) (by omega), diff_same A B hi e.symm]
    · rw [if_neg e, diff_other A B hi (fun h => e h.symm)]
      rfl
theorem firstDifference_same (k : Nat) (xs ys : List INode) (hk : 4 * xs.length + 4 * ys.length + 5960 < k) (hn : xs.length ≤ 1048576) (hm : ys.length ≤ 1048576) :
    ∃ r, spec_FirstDifference.f k xs ys = some r ∧ impl_FirstDifference.f k xs ys = some r := by
  unfold spec_FirstDifference.f impl_FirstDifference.f
  rw [compared_f k xs ys (by omega) hn hm]
  obtain ⟨k, rfl⟩ : ∃ m, k = m + 1 := ⟨k - 1, by omega⟩
  rw [good_f (k + 1) xs (by omega) hn, good_f (k + 1) ys (by omega) hm]
  simp only [Option.bind_some, spec_FirstDifference.j0]
  have h0 := differences_f (k + 1) [] [] (by simp) rfl (by omega)
  have e0 : diffFrom [] [] 0 = [] := rfl
  by_cases hE : isE xs = true
  · by_cases hF : isE ys = true
    · have hA := tableL_length xs
      have hB := tableL_length ys
      have h1 := first_main (tableL xs) (tableL ys) (by omega) (by omega) (tableL xs).length k 0 (by omega) (by omega)
      have h1' : spec_eqFirst.f k (tableL xs) (tableL ys) = some (headOr (diffFrom (tableL xs) (tableL ys) 0)) := h1
      have h2 := differences_f (k + 1) (tableL xs) (tableL ys) (by omega) (by omega) (by omega)
      have hmem := diff_mem (tableL xs) (tableL ys) 0
      simp only [if_pos hE, hF, if_pos (And.intro hE rfl), (table_f k xs hE (by omega)).1, (table_f k ys hF (by omega)).1, Option.bind_some, h1', h2, Bool.not_true, Bool.false_eq_true, if_false, and_true]
      generalize diffFrom (tableL xs) (tableL ys) 0 = D at hmem
      cases D with
      | nil => exact ⟨(0, 0, false), rfl, rfl⟩
      | cons p D =>
        have hp := hmem p (List.mem_cons_self ..)
        refine ⟨(wrap64 (Int.tdiv p 64), Int.tmod p 64, true), ?_, ?_⟩
        · show (if p < 0 then _ else _) = _
          rw [if_neg (by omega)]
          rfl
        · rw [if_neg (by rw [List.length_cons]; omega), if_pos (by rw [List.length_cons]; omega)]
          rfl
    · refine ⟨(0, 0, false), ?_, ?_⟩
      · rw [if_pos hE, Bool.eq_false_iff.2 hF, if_pos (by decide)]
      · simp only [if_neg (fun h : isE xs = true ∧ isE ys = true => hF h.2), h0, Option.bind_some, e0]
        rfl
  · refine ⟨(0, 0, false), ?_, ?_⟩
    · rw [if_neg hE, if_pos trivial]
    · simp only [if_neg (fun h : isE xs = true ∧ isE ys = true => hE h.1), h0, Option.bind_some, e0]
      rfl
theorem firstDifference_true (xs ys : List LNode) (hn : xs.length ≤ 9223372036854775807) (hs : ∀ x ∈ xs, x.f0.size ≤ 9223372036854775807) (hn' : ys.length ≤ 9223372036854775807) (hs' : ∀ x ∈ ys, x.f0.size ≤ 9223372036854775807) : laws_FnExactFirstDifference.f (4 * xs.length + 4 * ys.length + 6000) xs ys = some true := by
  unfold laws_FnExactFirstDifference.f
  obtain ⟨r, hr, hb, hl⟩ := szNodeS_f (4 * xs.length + 4 * ys.length + 6000) xs 1048576 (by omega) (by omega) hn hs (by omega)
  rw [hr, Option.bind_some]
  by_cases h : r < 0
  · rw [if_pos h]
  · rw [if_neg h]
    obtain ⟨r', hr', _, hl'⟩ := szNodeS_f (4 * xs.length + 4 * ys.length + 6000) ys r (by omega) hb hn' hs' (by omega)
    rw [hr', Option.bind_some]
    by_cases h' : r' < 0
    · rw [if_pos h']
    · rw [if_neg h']
      have hn2 : xs.length ≤ 1048576 := by have := hl (by omega); omega
      have hn3 : (xs.map convN).length ≤ 1048576 := by simpa using hn2
      have hn4 : ys.length ≤ 1048576 := by have := hl' (by omega); omega
      have hn5 : (ys.map convN).length ≤ 1048576 := by simpa using hn4
      have j0 : laws_FnExactFirstDifference.j0 (4 * xs.length + 4 * ys.length + 6000) xs ys (xs.map convN) (ys.map convN) false = some true := by
        rw [show 4 * xs.length + 4 * ys.length + 6000 = (4 * xs.length + 4 * ys.length + 5999) + 1 by omega]
        simp only [laws_FnExactFirstDifference.j0]
        rw [if_neg (by decide), toNodeS_f (4 * xs.length + 4 * ys.length + 5999) xs hn2 (by omega), Option.bind_some, eqNodeS_f (4 * xs.length + 4 * ys.length + 5999) (xs.map convN) hn3 (by rw [List.length_map]; omega), Option.bind_some, if_pos rfl, toNodeS_f (4 * xs.length + 4 * ys.length + 5999) ys hn4 (by omega), Option.bind_some, eqNodeS_f (4 * xs.length + 4 * ys.length + 5999) (ys.map convN) hn5 (by rw [List.length_map]; omega), Option.bind_some, if_pos rfl]
      rw [toNodeS_f (4 * xs.length + 4 * ys.length + 6000) xs hn2 (by omega), toNodeS_f (4 * xs.length + 4 * ys.length + 6000) ys hn4 (by omega)]
      obtain ⟨q, h1, h2⟩ := firstDifference_same (4 * xs.length + 4 * ys.length + 6000) (xs.map convN) (ys.map convN) (by rw [List.length_map, List.length_map]; omega) hn3 hn5
      simp only [Option.bind_some, h1, h2]
      simpa using j0
theorem firstDifference_walk (A : Option Addr) (c : Nat) (xs : List LNode) (hl0 : xs.length ≤ c) (W : World) (hr0 : Kd.C k87 W A xs.length xs) (hm0 : xs.length ≤ maxLen) (ho0 : ∀ x ∈ xs, nodeSOk x) (B : Option Addr) (d : Nat) (ys : List LNode) (hl1 : ys.length ≤ d) (hr1 : Kd.C k87 W B ys.length ys) (hm1 : ys.length ≤ maxLen) (ho1 : ∀ x ∈ ys, nodeSOk x) :
    Calls Try.prog 17 #[.slice A xs.length c, .slice B ys.length d] W fun e w' => e = .returned (.bool true) ∧ Below W.heap.size W w' :=
  laws_FnExactFirstDifference.calls (4 * xs.length + 4 * ys.length + 6000) A c xs B d ys true W hr0 hl0 hr1 hl1 (firstDifference_true xs ys (len_ok hm0) (nodes_ok ho0) (len_ok hm1) (nodes_ok ho1)) rfl
end Go.Proofs.Ytaddadknmipfeaa.PureOps
