/- ValuesOf of the program and of the reference agree for all arguments. -/
import Derived.Test.YtamahlhoainocaaPureEval
import Derived.Test.YtamahlhoainocaaPureMarks
import Derived.Test.YtamahlhoainocaaFSpecValuesOf
namespace Go.Proofs.Ytamahlhoainocaa.PureOps
open Go.RowKit Go.Proofs.Ytamahlhoainocaa.F Go.Proofs.YtamahlhoainocaaW.PrintWords Go.Proofs.YtamahlhoainocaaW.PrintLast Go.Proofs.YtamahlhoainocaaW.PrintMore Go.Proofs.Ytamahlhoainocaa.MKinds
set_option linter.unusedVariables false
theorem valuesOf_same (k : Nat) (xs : List INode) (x y : Int) (hk : 4 * xs.length + 60 < k) (hk2 : 100 < k) (hn : xs.length ≤ 1048576) :
    ∃ l b, spec_ValuesOf.f k xs x y = some (l, b) ∧ impl_ValuesOf.f k xs x y = some (l, b) ∧ l.length ≤ 24 := by
  unfold spec_ValuesOf.f impl_ValuesOf.f
  rw [good_f k xs hk hn, areRight_f k xs x y hk hn, exWord_f, exWord_f]
  cases hE : isE xs with
  | false => exact ⟨_, _, rfl, rfl, by simp⟩
  | true =>
    cases hx : word x with
    | false => exact ⟨_, _, rfl, rfl, by simp⟩
    | true =>
      cases hy : word y with
      | false => exact ⟨_, _, rfl, rfl, by simp⟩
      | true =>
        obtain ⟨h1, h2, h3, h4⟩ := values_f k xs hE hx hy hk2
        obtain ⟨q1, q2, _⟩ := isE_true hE
        refine ⟨vals xs x y, true, ?_, ?_, by omega⟩
        · simp only [Option.bind_some, if_true, h1]
        · simp only [Option.bind_some, Bool.and_self, if_true, h2]
theorem valuesOf_true (xs : List LNode) (x y : Int) (hn : xs.length ≤ 9223372036854775807) (hs : ∀ x ∈ xs, x.f0.size ≤ 9223372036854775807) : laws_FnExactValuesOf.f (4 * xs.length + 200) xs x y = some true := by
  unfold laws_FnExactValuesOf.f
  obtain ⟨r, hr, _, hl⟩ := szNodeS_f (4 * xs.length + 200) xs 1048576 (by omega) (by omega) hn hs (by omega)
  rw [hr, Option.bind_some]
  by_cases h : r < 0
  · rw [if_pos h]
  · rw [if_neg h]
    have hn2 : xs.length ≤ 1048576 := by have := hl (by omega); omega
    have hn3 : (xs.map convN).length ≤ 1048576 := by simpa using hn2
    have hm : (xs.map convN).length = xs.length := List.length_map ..
    obtain ⟨l, b, h1, h2, h3⟩ := valuesOf_same (4 * xs.length + 200) (xs.map convN) x y (by omega) (by omega) hn3
    obtain ⟨l', b', g1, g2, g3⟩ := valuesOf_same (4 * xs.length + 198) (xs.map convN) x y (by omega) (by omega) hn3
    have hq : l' = l ∧ b' = b := by
      have hE : ∀ k, 4 * xs.length + 60 < k → 100 < k → impl_ValuesOf.f k (xs.map convN) x y = some (if (isE (xs.map convN) && (word x && word y)) = true then (vals (xs.map convN) x y, true) else ([], false)) := by
        intro k hk hk2
        unfold impl_ValuesOf.f
        rw [areRight_f k (xs.map convN) x y (by omega) hn3, Option.bind_some]
        by_cases hc : (isE (xs.map convN) && (word x && word y)) = true
        · rw [if_pos hc, if_pos hc]
          simp only [Bool.and_eq_true] at hc
          rw [(values_f k (xs.map convN) hc.1 hc.2.1 hc.2.2 hk2).2.1, Option.bind_some]
        · rw [if_neg hc, if_neg hc]
      rw [hE _ (by omega) (by omega)] at h2 g2
      have := h2.symm.trans g2
      simp only [Option.some.injEq, Prod.mk.injEq] at this
      exact ⟨this.1.symm, this.2.symm⟩
    obtain ⟨rfl, rfl⟩ := hq
    obtain ⟨m, m1, m2⟩ := markNodeS_f (4 * xs.length + 199) (xs.map convN) hn3 (by omega)
    obtain ⟨ys, y1, y2, y3⟩ := markIntS_f (4 * xs.length + 198) l' (by omega) (by omega)
    rw [← y2] at y3
    have j2 : laws_FnExactValuesOf.j2 (4 * xs.length + 198) ys (1 + (l'.length : Int)) false = some true := by
      rw [show 4 * xs.length + 198 = (4 * xs.length + 197) + 1 from rfl]
      simp only [laws_FnExactValuesOf.j2]
      rw [if_neg (by decide), heldIntS_f _ ys (by omega) (by omega) y3, Option.bind_some, if_neg (by omega), if_pos (by omega)]
    have j1 : laws_FnExactValuesOf.j1 (4 * xs.length + 199) xs x y l' b' l' false = some true := by
      rw [show 4 * xs.length + 199 = (4 * xs.length + 198) + 1 from rfl]
      simp only [laws_FnExactValuesOf.j1]
      rw [if_neg (by decide), y1, Option.bind_some]
      dsimp only
      rw [heldIntS_f _ ys (by omega) (by omega) y3, Option.bind_some, if_neg (by omega), if_pos (by omega), toNodeS_f _ xs hn2 (by omega), Option.bind_some, g2, Option.bind_some]
      dsimp only
      rw [eqIntS_f _ l' (by omega) (by omega), Option.bind_some, if_pos rfl, bne_self_eq_false]
      exact j2
    have j0 : laws_FnExactValuesOf.j0 (4 * xs.length + 200) xs x y l' b' (xs.map convN) l' b' false = some true := by
      rw [show 4 * xs.length + 200 = (4 * xs.length + 199) + 1 from rfl]
      simp only [laws_FnExactValuesOf.j0]
      rw [if_neg (by decide), toNodeS_f (4 * xs.length + 199) xs hn2 (by omega), Option.bind_some, eqNodeS_f (4 * xs.length + 199) (xs.map convN) hn3 (by omega), Option.bind_some, if_pos rfl, m1, Option.bind_some, if_neg (by omega), eqIntS_f _ l' (by omega) (by omega), Option.bind_some, if_pos rfl, bne_self_eq_false]
      exact j1
    rw [toNodeS_f (4 * xs.length + 200) xs hn2 (by omega)]
    simp only [Option.bind_some, h1, h2]
    rw [eqIntS_f _ l' (by omega) (by omega), Option.bind_some, if_pos rfl, bne_self_eq_false]
    exact j0
theorem valuesOf_walk (A : Option Addr) (c : Nat) (xs : List LNode) (hl : xs.length ≤ c) (W : World) (hr : Kd.C k88 W A xs.length xs) (hm : xs.length ≤ maxLen) (ho : ∀ x ∈ xs, nodeSOk x) (x : Int) (_ : (Lit.int .i64 x).wf = true) (y : Int) (_ : (Lit.int .i64 y).wf = true) :
    Calls Try.prog 13 #[.slice A xs.length c, .int .i64 x, .int .i64 y] W fun e w' => e = .returned (.bool true) ∧ Below W.heap.size W w' :=
  laws_FnExactValuesOf.calls (4 * xs.length + 200) A c xs x y true W hr hl (valuesOf_true xs x y (len_ok hm) (nodes_ok ho)) rfl
end Go.Proofs.Ytamahlhoainocaa.PureOps
