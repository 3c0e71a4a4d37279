/- UsesOf of the program and of the reference agree for all arguments. -/
import Derived.Test.YtamahlhoainocaaPureIsExpr0
import Derived.Test.YtamahlhoainocaaPureMarks
import Derived.Test.YtamahlhoainocaaFSpecUsesOf
namespace Go.Proofs.Ytamahlhoainocaa.PureOps
open Go.RowKit Go.Proofs.Ytamahlhoainocaa.F Go.Proofs.YtamahlhoainocaaW.PrintWords Go.Proofs.YtamahlhoainocaaW.PrintLast Go.Proofs.YtamahlhoainocaaW.PrintMore Go.Proofs.Ytamahlhoainocaa.MKinds
set_option linter.unusedVariables false
theorem usesOf_same (k : Nat) (xs : List INode) (hk : 4 * xs.length + 60 < k) (hn : xs.length ≤ 1048576) :
    spec_UsesOf.f k xs = some (if isE xs = true then (usesL xs, true) else ([], false)) ∧ impl_UsesOf.f k xs = some (if isE xs = true then (usesL xs, true) else ([], false)) := by
  unfold spec_UsesOf.f impl_UsesOf.f
  rw [good_f k xs hk hn, isExpr_f k xs hk hn, Option.bind_some, Option.bind_some]
  by_cases hE : isE xs = true
  · obtain ⟨q1, q2, q3⟩ := isE_true hE
    rw [if_pos hE, if_pos hE, if_pos hE, (uses_f k xs q3 hn (by omega)).1, (uses_f k xs q3 hn (by omega)).2]
    exact ⟨rfl, rfl⟩
  · rw [if_neg hE, if_neg hE, if_neg hE]
    exact ⟨rfl, rfl⟩
theorem usesOf_true (xs : List LNode) (hn : xs.length ≤ 9223372036854775807) (hs : ∀ x ∈ xs, x.f0.size ≤ 9223372036854775807) : laws_FnExactUsesOf.f (4 * xs.length + 100) xs  = some true := by
  unfold laws_FnExactUsesOf.f
  obtain ⟨r, hr, _, hl⟩ := szNodeS_f (4 * xs.length + 100) xs 1048576 (by omega) (by omega) hn hs (by omega)
  rw [hr, Option.bind_some]
  by_cases h : r < 0
  · rw [if_pos h]
  · rw [if_neg h]
    have hn2 : xs.length ≤ 1048576 := by have := hl (by omega); omega
    have hn3 : (xs.map convN).length ≤ 1048576 := by simpa using hn2
    have hm : (xs.map convN).length = xs.length := List.length_map ..
    obtain ⟨h1, h2⟩ := usesOf_same (4 * xs.length + 100) (xs.map convN) (by omega) hn3
    obtain ⟨_, g2⟩ := usesOf_same (4 * xs.length + 98) (xs.map convN) (by omega) hn3
    obtain ⟨l', b', he, h3⟩ : ∃ l' b', (if isE (xs.map convN) = true then (usesL (xs.map convN), true) else ([], false)) = (l', b') ∧ l'.length ≤ 24 := by
      by_cases hE : isE (xs.map convN) = true
      · obtain ⟨q1, q2, _⟩ := isE_true hE
        exact ⟨_, _, by rw [if_pos hE], by rw [usesL_length]; exact q2⟩
      · exact ⟨_, _, by rw [if_neg hE], by simp⟩
    rw [he] at h1 h2 g2
    obtain ⟨m, m1, m2⟩ := markNodeS_f (4 * xs.length + 99) (xs.map convN) hn3 (by omega)
    obtain ⟨ys, y1, y2, y3⟩ := markIntS_f (4 * xs.length + 98) l' (by omega) (by omega)
    rw [← y2] at y3
    have j2 : laws_FnExactUsesOf.j2 (4 * xs.length + 98) ys (1 + (l'.length : Int)) false = some true := by
      rw [show 4 * xs.length + 98 = (4 * xs.length + 97) + 1 from rfl]
      simp only [laws_FnExactUsesOf.j2]
      rw [if_neg (by decide), heldIntS_f _ ys (by omega) (by omega) y3, Option.bind_some, if_neg (by omega), if_pos (by omega)]
    have j1 : laws_FnExactUsesOf.j1 (4 * xs.length + 99) xs l' b' l' false = some true := by
      rw [show 4 * xs.length + 99 = (4 * xs.length + 98) + 1 from rfl]
      simp only [laws_FnExactUsesOf.j1]
      rw [if_neg (by decide), y1, Option.bind_some]
      dsimp only
      rw [heldIntS_f _ ys (by omega) (by omega) y3, Option.bind_some, if_neg (by omega), if_pos (by omega), toNodeS_f _ xs hn2 (by omega), Option.bind_some, g2, Option.bind_some]
      dsimp only
      rw [eqIntS_f _ l' (by omega) (by omega), Option.bind_some, if_pos rfl, bne_self_eq_false]
      exact j2
    have j0 : laws_FnExactUsesOf.j0 (4 * xs.length + 100) xs  l' b' (xs.map convN) l' b' false = some true := by
      rw [show 4 * xs.length + 100 = (4 * xs.length + 99) + 1 from rfl]
      simp only [laws_FnExactUsesOf.j0]
      rw [if_neg (by decide), toNodeS_f (4 * xs.length + 99) xs hn2 (by omega), Option.bind_some, eqNodeS_f (4 * xs.length + 99) (xs.map convN) hn3 (by omega), Option.bind_some, if_pos rfl, m1, Option.bind_some, if_neg (by omega), eqIntS_f _ l' (by omega) (by omega), Option.bind_some, if_pos rfl, bne_self_eq_false]
      exact j1
    rw [toNodeS_f (4 * xs.length + 100) xs hn2 (by omega)]
    simp only [Option.bind_some, h1, h2]
    rw [eqIntS_f _ l' (by omega) (by omega), Option.bind_some, if_pos rfl, bne_self_eq_false]
    exact j0
theorem usesOf_walk (A : Option Addr) (c : Nat) (xs : List LNode) (hl : xs.length ≤ c) (W : World) (hr : Kd.C k88 W A xs.length xs) (hm : xs.length ≤ maxLen) (ho : ∀ x ∈ xs, nodeSOk x) :
    Calls Try.prog 7 #[.slice A xs.length c] W fun e w' => e = .returned (.bool true) ∧ Below W.heap.size W w' :=
  laws_FnExactUsesOf.calls (4 * xs.length + 100) A c xs  true W hr hl (usesOf_true xs  (len_ok hm) (nodes_ok ho)) rfl
end Go.Proofs.Ytamahlhoainocaa.PureOps
