/- EqualAt of the program and of the reference agree for all arguments. -/
import Derived.Test.YtaddadknmipfeaaPureBitsE
import Derived.Test.YtaddadknmipfeaaFSpecEqualAt
namespace Go.Proofs.Ytaddadknmipfeaa.PureOps
open Go.RowKit Go.Proofs.Ytaddadknmipfeaa.F Go.Proofs.YtaddadknmipfeaaW.PrintWords Go.Proofs.YtaddadknmipfeaaW.PrintLast Go.Proofs.YtaddadknmipfeaaW.PrintMore Go.Proofs.Ytaddadknmipfeaa.MKinds
set_option linter.unusedVariables false
set_option linter.unusedSimpArgs false
theorem equalAt_same (k : Nat) (xs ys : List INode) (m : Int) (hk : 4 * xs.length + 4 * ys.length + 5960 < k) (hn : xs.length ≤ 1048576) (hm : ys.length ≤ 1048576) :
    ∃ r, spec_EqualAt.f k xs ys m = some r ∧ impl_EqualAt.f k xs ys m = some r := by
  unfold spec_EqualAt.f impl_EqualAt.f
  rw [differentBits_f k xs ys (by omega) hn hm]
  obtain ⟨k, rfl⟩ : ∃ m, k = m + 1 := ⟨k - 1, by omega⟩
  rw [good_f (k + 1) xs (by omega) hn, good_f (k + 1) ys (by omega) hm, exWord_f, isWord_f]
  simp only [Option.bind_some, spec_EqualAt.j0]
  by_cases hE : isE xs = true
  · by_cases hF : isE ys = true
    · by_cases hw : word m = true
      · refine ⟨(Go.bits .and .i64 (bitsE xs ys) m == 0, true), ?_, ?_⟩
        · rw [if_pos hE, if_pos hF, hw, if_neg (by decide), (table_f k xs hE (by omega)).1, (table_f k ys hF (by omega)).1, Option.bind_some, Option.bind_some, eqBits_f k xs ys hE hF (by omega), Option.bind_some]
        · simp only [if_pos (And.intro hE hF), if_true, hw]
      · refine ⟨(false, false), ?_, ?_⟩
        · rw [if_pos hE, if_pos hF, Bool.eq_false_iff.2 hw, if_pos (by decide)]
        · simp only [if_pos (And.intro hE hF), if_true, Bool.eq_false_iff.2 hw]
          rfl
    · refine ⟨(false, false), ?_, ?_⟩
      · rw [if_pos hE, if_neg hF, if_pos trivial]
      · simp only [if_neg (fun h : isE xs = true ∧ isE ys = true => hF h.2)]
        rfl
  · refine ⟨(false, false), ?_, ?_⟩
    · rw [if_neg hE, if_pos trivial]
    · simp only [if_neg (fun h : isE xs = true ∧ isE ys = true => hE h.1)]
      rfl
theorem equalAt_true (xs ys : List LNode) (m : Int) (hn : xs.length ≤ 9223372036854775807) (hs : ∀ x ∈ xs, x.f0.size ≤ 9223372036854775807) (hn' : ys.length ≤ 9223372036854775807) (hs' : ∀ x ∈ ys, x.f0.size ≤ 9223372036854775807) : laws_FnExactEqualAt.f (4 * xs.length + 4 * ys.length + 6000) xs ys m = some true := by
  unfold laws_FnExactEqualAt.f
  obtain ⟨r, hr, hb, hl⟩ := szNodeS_f (4 * xs.length + 4 * ys.length + 6000) xs 1048576 (by omega) (by omega) hn hs (by omega)
  rw [hr, Option.bind_some]
  by_cases h : r < 0
  · rw [if_pos h]
  · rw [if_neg h]
    obtain ⟨r', hr', _, hl'⟩ := szNodeS_f (4 * xs.length + 4 * ys.length + 6000) ys r (by omega) hb hn' hs' (by omega)
    rw [hr', Option.bind_some]
    by_cases h' : r' < 0
    · rw [if_pos h']
    · rw [if_neg h']
      have hn2 : xs.length ≤ 1048576 := by have := hl (by omega); omega
      have hn3 : (xs.map convN).length ≤ 1048576 := by simpa using hn2
      have hn4 : ys.length ≤ 1048576 := by have := hl' (by omega); omega
      have hn5 : (ys.map convN).length ≤ 1048576 := by simpa using hn4
      have j0 : laws_FnExactEqualAt.j0 (4 * xs.length + 4 * ys.length + 6000) xs ys (xs.map convN) (ys.map convN) false = some true := by
        rw [show 4 * xs.length + 4 * ys.length + 6000 = (4 * xs.length + 4 * ys.length + 5999) + 1 by omega]
        simp only [laws_FnExactEqualAt.j0]
        rw [if_neg (by decide), toNodeS_f (4 * xs.length + 4 * ys.length + 5999) xs hn2 (by omega), Option.bind_some, eqNodeS_f (4 * xs.length + 4 * ys.length + 5999) (xs.map convN) hn3 (by rw [List.length_map]; omega), Option.bind_some, if_pos rfl, toNodeS_f (4 * xs.length + 4 * ys.length + 5999) ys hn4 (by omega), Option.bind_some, eqNodeS_f (4 * xs.length + 4 * ys.length + 5999) (ys.map convN) hn5 (by rw [List.length_map]; omega), Option.bind_some, if_pos rfl]
      rw [toNodeS_f (4 * xs.length + 4 * ys.length + 6000) xs hn2 (by omega), toNodeS_f (4 * xs.length + 4 * ys.length + 6000) ys hn4 (by omega)]
      obtain ⟨q, h1, h2⟩ := equalAt_same (4 * xs.length + 4 * ys.length + 6000) (xs.map convN) (ys.map convN) m (by rw [List.length_map, List.length_map]; omega) hn3 hn5
      simp only [Option.bind_some, h1, h2]
      simpa using j0
theorem equalAt_walk (A : Option Addr) (c : Nat) (xs : List LNode) (hl0 : xs.length ≤ c) (W : World) (hr0 : Kd.C k87 W A xs.length xs) (hm0 : xs.length ≤ maxLen) (ho0 : ∀ x ∈ xs, nodeSOk x) (B : Option Addr) (d : Nat) (ys : List LNode) (hl1 : ys.length ≤ d) (hr1 : Kd.C k87 W B ys.length ys) (hm1 : ys.length ≤ maxLen) (ho1 : ∀ x ∈ ys, nodeSOk x) (m : Int) (_ : (Lit.int .i64 m).wf = true) :
    Calls Try.prog 16 #[.slice A xs.length c, .slice B ys.length d, .int .i64 m] W fun e w' => e = .returned (.bool true) ∧ Below W.heap.size W w' :=
  laws_FnExactEqualAt.calls (4 * xs.length + 4 * ys.length + 6000) A c xs B d ys m true W hr0 hl0 hr1 hl1 (equalAt_true xs ys m (len_ok hm0) (nodes_ok ho0) (len_ok hm1) (nodes_ok ho1)) rfl
end Go.Proofs.Ytaddadknmipfeaa.PureOps
