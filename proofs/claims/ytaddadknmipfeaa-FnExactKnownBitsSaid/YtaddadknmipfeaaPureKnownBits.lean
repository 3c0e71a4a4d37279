/- KnownBits of the program and of the reference agree for all arguments. -/
import Derived.Test.YtaddadknmipfeaaPureTable
import Derived.Test.YtaddadknmipfeaaFSpecKnownBits
namespace Go.Proofs.Ytaddadknmipfeaa.PureOps
open Go.RowKit Go.Proofs.Ytaddadknmipfeaa.F Go.Proofs.YtaddadknmipfeaaW.PrintWords Go.Proofs.YtaddadknmipfeaaW.PrintLast Go.Proofs.YtaddadknmipfeaaW.PrintMore Go.Proofs.Ytaddadknmipfeaa.MKinds
set_option linter.unusedVariables false
set_option linter.unusedSimpArgs false
theorem knownBits_eq (k : Nat) : ∀ (T : List Int) (n i a b : Int), impl_KnownBits.l0 k T n i a b = spec_KnownBits.l0 k T n i a b := by
  induction k with
  | zero => intros; rfl
  | succ k ih => intros; simp only [impl_KnownBits.l0, spec_KnownBits.l0, ih]
theorem knownBits_same (k : Nat) (xs : List INode) (hk : 4 * xs.length + 5960 < k) (hn : xs.length ≤ 1048576) :
    ∃ r, spec_KnownBits.f k xs = some r ∧ impl_KnownBits.f k xs = some r := by
  unfold spec_KnownBits.f impl_KnownBits.f
  rw [good_f k xs (by omega) hn, isExpr_f k xs (by omega) hn, Option.bind_some, Option.bind_some]
  by_cases hE : isE xs = true
  · rw [if_pos hE, if_pos hE, (table_f k xs hE (by omega)).1, (table_f k xs hE (by omega)).2, Option.bind_some, Option.bind_some, knownBits_eq]
    have hT := tableL_length xs
    generalize tableL xs = T at hT
    obtain ⟨r, hr, _⟩ := some_loop (fun k (s : Int × Int) i => spec_KnownBits.l0 k T (T.length : Int) i s.1 s.2) T.length (by omega) 0 (fun _ _ => True) (fun _ => True)
      (fun k i s _ h _ => .inr ⟨(Go.bits .andNot .i64 s.1 (rd T (i : Int)), Go.bits .and .i64 s.2 (rd T (i : Int))), by
        simp only [spec_KnownBits.l0]
        rw [if_pos (by omega), if_pos (by omega), if_pos (by omega)], trivial⟩)
      (fun k s _ _ => ⟨_, by simp only [spec_KnownBits.l0]; rw [if_neg (by omega)], trivial⟩) T.length k 0 (63, 63) (by omega) (by omega) trivial
    exact ⟨r, hr, hr⟩
  · rw [if_neg hE, if_neg hE]
    exact ⟨_, rfl, rfl⟩
theorem knownBits_true (xs : List LNode) (hn : xs.length ≤ 9223372036854775807) (hs : ∀ x ∈ xs, x.f0.size ≤ 9223372036854775807) : laws_FnExactKnownBits.f (4 * xs.length + 6000) xs = some true := by
  unfold laws_FnExactKnownBits.f
  obtain ⟨r, hr, _, hl⟩ := szNodeS_f (4 * xs.length + 6000) xs 1048576 (by omega) (by omega) hn hs (by omega)
  rw [hr, Option.bind_some]
  by_cases h : r < 0
  · rw [if_pos h]
  · rw [if_neg h]
    have hn2 : xs.length ≤ 1048576 := by have := hl (by omega); omega
    have hn3 : (xs.map convN).length ≤ 1048576 := by simpa using hn2
    have j0 : laws_FnExactKnownBits.j0 (4 * xs.length + 6000) xs (xs.map convN) false = some true := by
      rw [show 4 * xs.length + 6000 = (4 * xs.length + 5999) + 1 by omega]
      simp only [laws_FnExactKnownBits.j0]
      rw [if_neg (by decide), toNodeS_f (4 * xs.length + 5999) xs hn2 (by omega), Option.bind_some, eqNodeS_f (4 * xs.length + 5999) (xs.map convN) hn3 (by rw [List.length_map]; omega), Option.bind_some, if_pos rfl]
    rw [toNodeS_f (4 * xs.length + 6000) xs hn2 (by omega)]
    obtain ⟨q, h1, h2⟩ := knownBits_same (4 * xs.length + 6000) (xs.map convN) (by rw [List.length_map]; omega) hn3
    simp only [Option.bind_some, h1, h2, laws_eqKnown.f]
    simpa using j0
theorem knownBits_walk (A : Option Addr) (c : Nat) (xs : List LNode) (hl0 : xs.length ≤ c) (W : World) (hr0 : Kd.C k87 W A xs.length xs) (hm0 : xs.length ≤ maxLen) (ho0 : ∀ x ∈ xs, nodeSOk x) :
    Calls Try.prog 12 #[.slice A xs.length c] W fun e w' => e = .returned (.bool true) ∧ Below W.heap.size W w' :=
  laws_FnExactKnownBits.calls (4 * xs.length + 6000) A c xs true W hr0 hl0 (knownBits_true xs (len_ok hm0) (nodes_ok ho0)) rfl
end Go.Proofs.Ytaddadknmipfeaa.PureOps
