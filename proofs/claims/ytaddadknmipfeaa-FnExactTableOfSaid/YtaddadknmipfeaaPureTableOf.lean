/- TableOf of the program and of the reference agree for all arguments. -/
import Derived.Test.YtaddadknmipfeaaPureTable
import Derived.Test.YtaddadknmipfeaaPureMarks
import Derived.Test.YtaddadknmipfeaaFSpecTableOf
namespace Go.Proofs.Ytaddadknmipfeaa.PureOps
open Go.RowKit Go.Proofs.Ytaddadknmipfeaa.F Go.Proofs.YtaddadknmipfeaaW.PrintWords Go.Proofs.YtaddadknmipfeaaW.PrintLast Go.Proofs.YtaddadknmipfeaaW.PrintMore Go.Proofs.Ytaddadknmipfeaa.MKinds
set_option linter.unusedVariables false
set_option linter.unusedSimpArgs false
open Classical in
noncomputable def tableOf_res (xs : List INode) : List Int × Bool := if isE xs = true then (tableL xs, true) else ([], false)
theorem tableOf_small (xs : List INode) : (tableOf_res xs).1.length ≤ 5000 := by
  unfold tableOf_res
  split
  · show (tableL xs).length ≤ 5000
    rw [tableL_length]; omega
  · simp
theorem tableOf_same (k : Nat) (xs : List INode) (hk : 4 * xs.length + 5960 < k) (hn : xs.length ≤ 1048576) :
    spec_TableOf.f k xs = some (tableOf_res xs) ∧ impl_TableOf.f k xs = some (tableOf_res xs) := by
  unfold spec_TableOf.f impl_TableOf.f tableOf_res
  rw [good_f k xs (by omega) hn, isExpr_f k xs (by omega) hn, Option.bind_some, Option.bind_some]
  by_cases hE : isE xs = true
  · rw [if_pos hE, if_pos hE, if_pos hE, (table_f k xs hE (by omega)).1, (table_f k xs hE (by omega)).2]
    exact ⟨rfl, rfl⟩
  · rw [if_neg hE, if_neg hE, if_neg hE]
    exact ⟨rfl, rfl⟩
theorem tableOf_true (xs : List LNode) (hn : xs.length ≤ 9223372036854775807) (hs : ∀ x ∈ xs, x.f0.size ≤ 9223372036854775807) : laws_FnExactTableOf.f (4 * xs.length + 6000) xs = some true := by
  unfold laws_FnExactTableOf.f
  obtain ⟨r, hr, _, hl⟩ := szNodeS_f (4 * xs.length + 6000) xs 1048576 (by omega) (by omega) hn hs (by omega)
  rw [hr, Option.bind_some]
  by_cases h : r < 0
  · rw [if_pos h]
  · rw [if_neg h]
    have hn2 : xs.length ≤ 1048576 := by have := hl (by omega); omega
    have hn3 : (xs.map convN).length ≤ 1048576 := by simpa using hn2
    have hm : (xs.map convN).length = xs.length := List.length_map ..
    obtain ⟨h1, h2⟩ := tableOf_same (4 * xs.length + 6000) (xs.map convN) (by omega) hn3
    obtain ⟨_, g2⟩ := tableOf_same (4 * xs.length + 5998) (xs.map convN) (by omega) hn3
    have h3 := tableOf_small (xs.map convN)
    generalize tableOf_res (xs.map convN) = q at h1 h2 g2 h3
    obtain ⟨l', b'⟩ := q
    have h3 : l'.length ≤ 5000 := h3
    obtain ⟨m, m1, m2⟩ := markNodeS_f (4 * xs.length + 5999) (xs.map convN) hn3 (by omega)
    obtain ⟨ys, y1, y2, y3⟩ := markIntS_f (4 * xs.length + 5998) l' (by omega) (by omega)
    rw [← y2] at y3
    have j2 : laws_FnExactTableOf.j2 (4 * xs.length + 5998) ys (1 + (l'.length : Int)) false = some true := by
      rw [show 4 * xs.length + 5998 = (4 * xs.length + 5997) + 1 by omega]
      simp only [laws_FnExactTableOf.j2]
      rw [if_neg (by decide), heldIntS_f _ ys (by omega) (by omega) y3, Option.bind_some, if_neg (by omega), if_pos (by omega)]
    have j1 : laws_FnExactTableOf.j1 (4 * xs.length + 5999) xs l' b' l' false = some true := by
      rw [show 4 * xs.length + 5999 = (4 * xs.length + 5998) + 1 by omega]
      simp only [laws_FnExactTableOf.j1]
      rw [if_neg (by decide), y1, Option.bind_some]
      dsimp only
      rw [heldIntS_f _ ys (by omega) (by omega) y3, Option.bind_some, if_neg (by omega), if_pos (by omega), toNodeS_f _ xs hn2 (by omega), Option.bind_some, g2, Option.bind_some]
      dsimp only
      rw [eqIntS_f _ l' (by omega) (by omega), Option.bind_some, if_pos rfl, bne_self_eq_false]
      exact j2
    have j0 : laws_FnExactTableOf.j0 (4 * xs.length + 6000) xs l' b' (xs.map convN) l' b' false = some true := by
      rw [show 4 * xs.length + 6000 = (4 * xs.length + 5999) + 1 by omega]
      simp only [laws_FnExactTableOf.j0]
      rw [if_neg (by decide), toNodeS_f (4 * xs.length + 5999) xs hn2 (by omega), Option.bind_some, eqNodeS_f (4 * xs.length + 5999) (xs.map convN) hn3 (by omega), Option.bind_some, if_pos rfl, m1, Option.bind_some, if_neg (by omega), eqIntS_f _ l' (by omega) (by omega), Option.bind_some, if_pos rfl, bne_self_eq_false]
      exact j1
    rw [toNodeS_f (4 * xs.length + 6000) xs hn2 (by omega)]
    simp only [Option.bind_some, h1, h2]
    rw [eqIntS_f _ l' (by omega) (by omega), Option.bind_some, if_pos rfl, bne_self_eq_false]
    exact j0
theorem tableOf_walk (A : Option Addr) (c : Nat) (xs : List LNode) (hl0 : xs.length ≤ c) (W : World) (hr0 : Kd.C k87 W A xs.length xs) (hm0 : xs.length ≤ maxLen) (ho0 : ∀ x ∈ xs, nodeSOk x) :
    Calls Try.prog 10 #[.slice A xs.length c] W fun e w' => e = .returned (.bool true) ∧ Below W.heap.size W w' :=
  laws_FnExactTableOf.calls (4 * xs.length + 6000) A c xs true W hr0 hl0 (tableOf_true xs (len_ok hm0) (nodes_ok ho0)) rfl
end Go.Proofs.Ytaddadknmipfeaa.PureOps
