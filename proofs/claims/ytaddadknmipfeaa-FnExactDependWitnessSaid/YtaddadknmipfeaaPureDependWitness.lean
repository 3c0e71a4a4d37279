/- DependWitness of the program and of the reference agree for all arguments. -/
import Derived.Test.YtaddadknmipfeaaPureWitness
import Derived.Test.YtaddadknmipfeaaPureMarks
import Derived.Test.YtaddadknmipfeaaFSpecDependWitness
namespace Go.Proofs.Ytaddadknmipfeaa.PureOps
open Go.RowKit Go.Proofs.Ytaddadknmipfeaa.F Go.Proofs.YtaddadknmipfeaaW.PrintWords Go.Proofs.YtaddadknmipfeaaW.PrintLast Go.Proofs.YtaddadknmipfeaaW.PrintMore Go.Proofs.Ytaddadknmipfeaa.MKinds
set_option linter.unusedVariables false
set_option linter.unusedSimpArgs false
theorem dependWitness_small (xs : List INode) (a : Int) : (dependWitness_res xs a).1.length ≤ 5000 := by
  unfold dependWitness_res
  split
  · rename_i h
    have := (wit_s 300000 xs a h.1 (by omega)).2
    omega
  · simp
theorem dependWitness_same (k : Nat) (xs : List INode) (a : Int) (hk : 4 * xs.length + 300960 < k) (hn : xs.length ≤ 1048576) :
    spec_DependWitness.f k xs a = some (dependWitness_res xs a) ∧ impl_DependWitness.f k xs a = some (dependWitness_res xs a) := by
  refine ⟨?_, wit_i k xs a (by omega) hn⟩
  unfold spec_DependWitness.f dependWitness_res
  rw [good_f k xs (by omega) hn, l1In_f]
  simp only [Option.bind_some]
  by_cases hE : isE xs = true
  · by_cases ha : (decide (0 ≤ a) && decide (a ≤ 1)) = true
    · rw [if_pos (show isE xs = true ∧ (decide (0 ≤ a) && decide (a ≤ 1)) = true from ⟨hE, ha⟩), if_pos hE, if_pos ha, (wit_s k xs a hE (by omega)).1, Option.bind_some]
    · rw [if_neg (show ¬ (isE xs = true ∧ (decide (0 ≤ a) && decide (a ≤ 1)) = true) from fun h => ha h.2), if_pos hE, if_neg ha]
  · rw [if_neg (show ¬ (isE xs = true ∧ (decide (0 ≤ a) && decide (a ≤ 1)) = true) from fun h => hE h.1), if_neg hE]
theorem dependWitness_true (xs : List LNode) (a : Int) (hn : xs.length ≤ 9223372036854775807) (hs : ∀ x ∈ xs, x.f0.size ≤ 9223372036854775807) : laws_FnExactDependWitness.f (4 * xs.length + 301000) xs a = some true := by
  unfold laws_FnExactDependWitness.f
  obtain ⟨r, hr, _, hl⟩ := szNodeS_f (4 * xs.length + 301000) xs 1048576 (by omega) (by omega) hn hs (by omega)
  rw [hr, Option.bind_some]
  by_cases h : r < 0
  · rw [if_pos h]
  · rw [if_neg h]
    have hn2 : xs.length ≤ 1048576 := by have := hl (by omega); omega
    have hn3 : (xs.map convN).length ≤ 1048576 := by simpa using hn2
    have hm : (xs.map convN).length = xs.length := List.length_map ..
    obtain ⟨h1, h2⟩ := dependWitness_same (4 * xs.length + 301000) (xs.map convN) a (by omega) hn3
    obtain ⟨_, g2⟩ := dependWitness_same (4 * xs.length + 300998) (xs.map convN) a (by omega) hn3
    have h3 := dependWitness_small (xs.map convN) a
    generalize dependWitness_res (xs.map convN) a = q at h1 h2 g2 h3
    obtain ⟨l', b'⟩ := q
    have h3 : l'.length ≤ 5000 := h3
    obtain ⟨m, m1, m2⟩ := markNodeS_f (4 * xs.length + 300999) (xs.map convN) hn3 (by omega)
    obtain ⟨ys, y1, y2, y3⟩ := markIntS_f (4 * xs.length + 300998) l' (by omega) (by omega)
    rw [← y2] at y3
    have j2 : laws_FnExactDependWitness.j2 (4 * xs.length + 300998) ys (1 + (l'.length : Int)) false = some true := by
      rw [show 4 * xs.length + 300998 = (4 * xs.length + 300997) + 1 by omega]
      simp only [laws_FnExactDependWitness.j2]
      rw [if_neg (by decide), heldIntS_f _ ys (by omega) (by omega) y3, Option.bind_some, if_neg (by omega), if_pos (by omega)]
    have j1 : laws_FnExactDependWitness.j1 (4 * xs.length + 300999) xs a l' b' l' false = some true := by
      rw [show 4 * xs.length + 300999 = (4 * xs.length + 300998) + 1 by omega]
      simp only [laws_FnExactDependWitness.j1]
      rw [if_neg (by decide), y1, Option.bind_some]
      dsimp only
      rw [heldIntS_f _ ys (by omega) (by omega) y3, Option.bind_some, if_neg (by omega), if_pos (by omega), toNodeS_f _ xs hn2 (by omega), Option.bind_some, g2, Option.bind_some]
      dsimp only
      rw [eqIntS_f _ l' (by omega) (by omega), Option.bind_some, if_pos rfl, bne_self_eq_false]
      exact j2
    have j0 : laws_FnExactDependWitness.j0 (4 * xs.length + 301000) xs a l' b' (xs.map convN) l' b' false = some true := by
      rw [show 4 * xs.length + 301000 = (4 * xs.length + 300999) + 1 by omega]
      simp only [laws_FnExactDependWitness.j0]
      rw [if_neg (by decide), toNodeS_f (4 * xs.length + 300999) xs hn2 (by omega), Option.bind_some, eqNodeS_f (4 * xs.length + 300999) (xs.map convN) hn3 (by omega), Option.bind_some, if_pos rfl, m1, Option.bind_some, if_neg (by omega), eqIntS_f _ l' (by omega) (by omega), Option.bind_some, if_pos rfl, bne_self_eq_false]
      exact j1
    rw [toNodeS_f (4 * xs.length + 301000) xs hn2 (by omega)]
    simp only [Option.bind_some, h1, h2]
    rw [eqIntS_f _ l' (by omega) (by omega), Option.bind_some, if_pos rfl, bne_self_eq_false]
    exact j0
theorem dependWitness_walk (A : Option Addr) (c : Nat) (xs : List LNode) (hl0 : xs.length ≤ c) (W : World) (hr0 : Kd.C k87 W A xs.length xs) (hm0 : xs.length ≤ maxLen) (ho0 : ∀ x ∈ xs, nodeSOk x) (a : Int) (_ : (Lit.int .i64 a).wf = true) :
    Calls Try.prog 19 #[.slice A xs.length c, .int .i64 a] W fun e w' => e = .returned (.bool true) ∧ Below W.heap.size W w' :=
  laws_FnExactDependWitness.calls (4 * xs.length + 301000) A c xs a true W hr0 hl0 (dependWitness_true xs a (len_ok hm0) (nodes_ok ho0)) rfl
end Go.Proofs.Ytaddadknmipfeaa.PureOps
