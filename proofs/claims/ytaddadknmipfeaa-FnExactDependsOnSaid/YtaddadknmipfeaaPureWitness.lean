/- The first change of an input that changes the value: one answer of both sides. Plain. -/
import Derived.Test.YtaddadknmipfeaaPureTable
import Derived.Test.YtaddadknmipfeaaFSpecEqWitness
import Derived.Test.YtaddadknmipfeaaFSpecEqWitness
namespace Go.Proofs.Ytaddadknmipfeaa.PureOps
open Go.RowKit Go.Proofs.Ytaddadknmipfeaa.F Go.Proofs.YtaddadknmipfeaaW.PrintWords Go.Proofs.YtaddadknmipfeaaW.PrintLast Go.Proofs.YtaddadknmipfeaaW.PrintMore Go.Proofs.Ytaddadknmipfeaa.MKinds
set_option linter.unusedVariables false
set_option linter.unusedSimpArgs false
theorem inputsAt_r (x : Int) : impl_inputsAt.f x = some (wrap64 (Int.tdiv x 64), Int.tmod x 64) := rfl
theorem wit_eq (k : Nat) : (∀ (a : Int) (T U : List Int) (n i : Int), impl_DependWitness.l0 k a T U n i = spec_eqWitness.l0 k a T U n i) ∧ (∀ (a : Int) (T : List Int) (j v : Int) (U : List Int) (n i w : Int), impl_DependWitness.l1 k a T v (wrap64 (Int.tdiv j 64)) (Int.tmod j 64) U n i w = spec_eqWitness.l1 k a T j v w U n i) := by
  induction k with
  | zero => exact ⟨fun _ _ _ _ _ => rfl, fun _ _ _ _ _ _ _ _ => rfl⟩
  | succ k ih =>
    refine ⟨fun a T U n i => ?_, fun a T j v U n i w => ?_⟩
    · simp only [impl_DependWitness.l0, spec_eqWitness.l0]
      rw [inputsAt_r, Option.bind_some]
      by_cases h1 : i < n
      · rw [if_pos h1, if_pos h1]
        by_cases h2 : 0 ≤ i
        · rw [if_pos h2, if_pos h2]
          by_cases h3 : i < (U.length : Int)
          · rw [if_pos h3, if_pos h3]
            exact ih.2 a T i (rd U i) U n i 0
          · rw [if_neg h3, if_neg h3]
        · rw [if_neg h2, if_neg h2]
      · rw [if_neg h1, if_neg h1]
    · have e1 := ih.1 a T U n (wrap64 (i + 1))
      have e2 := ih.2 a T j v U n i (wrap64 (w + 1))
      simp only [impl_DependWitness.l1, spec_eqWitness.l1]
      generalize wrap64 (Int.tdiv j 64) = p at e2 ⊢
      generalize Int.tmod j 64 = q at e2 ⊢
      rw [e1, e2]
      by_cases hw : w ≤ 63
      · rw [if_pos hw, if_pos (show w < 64 by omega)]
      · rw [if_neg hw, if_neg (show ¬ w < 64 by omega)]
theorem at1 {i w : Nat} (hi : i < 4096) (hw : w < 64) : ∃ p q, wrap64 (Int.tdiv (i : Int) 64) = p ∧ Int.tmod (i : Int) 64 = q ∧ wrap64 (wrap64 (64 * p) + (w : Int)) = ((64 * (i / 64) + w : Nat) : Int) ∧ wrap64 (wrap64 (64 * (w : Int)) + q) = ((64 * w + i % 64 : Nat) : Int) := by
  refine ⟨((i / 64 : Nat) : Int), ((i % 64 : Nat) : Int), ?_, ?_, ?_, ?_⟩
  · rw [Int.tdiv_eq_ediv_of_nonneg (by omega), wrap64_small (by omega) (by omega)]; omega
  · rw [Int.tmod_eq_emod_of_nonneg (by omega)]; omega
  · rw [wrap64_small (n := 64 * ((i / 64 : Nat) : Int)) (by omega) (by omega), wrap64_small (by omega) (by omega)]; omega
  · rw [wrap64_small (n := 64 * (w : Int)) (by omega) (by omega), wrap64_small (by omega) (by omega)]; omega
theorem wit_row (a : Int) (T : List Int) (hT : T.length = 4096) (i : Nat) (hi : i < 4096) (v : Int) (e : Nat) : ∀ (k w : Nat), w + e = 64 → e < k →
    (∃ r, spec_eqWitness.l1 k a T (i : Int) v (w : Int) T (T.length : Int) (i : Int) = some r ∧ r.1.length ≤ 3) ∨ ∃ k', k ≤ k' + e + 1 ∧ spec_eqWitness.l1 k a T (i : Int) v (w : Int) T (T.length : Int) (i : Int) = spec_eqWitness.l0 k' a T T (T.length : Int) (wrap64 ((i : Int) + 1)) := by
  induction e with
  | zero =>
    intro k w h hk
    obtain ⟨k, rfl⟩ : ∃ m, k = m + 1 := ⟨k - 1, by omega⟩
    refine .inr ⟨k, by omega, ?_⟩
    simp only [spec_eqWitness.l1]
    rw [if_neg (by omega)]
  | succ e ih =>
    intro k w h hk
    obtain ⟨k, rfl⟩ : ∃ m, k = m + 1 := ⟨k - 1, by omega⟩
    have hw : w < 64 := by omega
    have b1 : ((64 * (i / 64) + w : Nat) : Int) < (T.length : Int) := by omega
    have b2 : ((64 * w + i % 64 : Nat) : Int) < (T.length : Int) := by omega
    have c1 : (0 : Int) ≤ ((64 * (i / 64) + w : Nat) : Int) := Int.natCast_nonneg _
    have c2 : (0 : Int) ≤ ((64 * w + i % 64 : Nat) : Int) := Int.natCast_nonneg _
    have IH := ih k (w + 1) (by omega) (by omega)
    have hs : wrap64 ((w : Int) + 1) = ((w + 1 : Nat) : Int) := wrapS hw (by omega)
    have hw63 : (w : Int) ≤ 63 := by omega
    simp only [spec_eqWitness.l1]
    obtain ⟨p, q, e1, e2, e3, e4⟩ := at1 hi hw
    rw [e1, e2, e3, e4, if_pos hw63, hs]
    clear e1 e2 e3 e4 hs
    generalize ((64 * (i / 64) + w : Nat) : Int) = x at b1 c1
    generalize ((64 * w + i % 64 : Nat) : Int) = y at b2 c2
    by_cases ha : a = 1
    · rw [if_pos ha, if_pos c1, if_pos b1]
      by_cases hv : rd T x = v
      · rw [if_pos hv]
        rcases IH with h' | ⟨k', h1, h2⟩
        · exact .inl h'
        · exact .inr ⟨k', by omega, h2⟩
      · rw [if_neg hv]
        exact .inl ⟨_, rfl, by simp⟩
    · rw [if_neg ha, if_pos c2, if_pos b2]
      by_cases hv : rd T y = v
      · rw [if_pos hv]
        rcases IH with h' | ⟨k', h1, h2⟩
        · exact .inl h'
        · exact .inr ⟨k', by omega, h2⟩
      · rw [if_neg hv]
        exact .inl ⟨_, rfl, by simp⟩
theorem wit_main (a : Int) (T : List Int) (hT : T.length = 4096) (d : Nat) : ∀ (k i : Nat), i + d = 4096 → 70 * d + 5 < k → ∃ r, spec_eqWitness.l0 k a T T (T.length : Int) (i : Int) = some r ∧ r.1.length ≤ 3 := by
  induction d with
  | zero =>
    intro k i h hk
    obtain ⟨k, rfl⟩ : ∃ m, k = m + 1 := ⟨k - 1, by omega⟩
    refine ⟨([], false), ?_, by simp⟩
    simp only [spec_eqWitness.l0]
    rw [if_neg (by omega)]
  | succ d ih =>
    intro k i h hk
    obtain ⟨k, rfl⟩ : ∃ m, k = m + 1 := ⟨k - 1, by omega⟩
    have hi : i < 4096 := by omega
    have e : spec_eqWitness.l0 (k + 1) a T T (T.length : Int) (i : Int) = spec_eqWitness.l1 k a T (i : Int) (rd T (i : Int)) ((0 : Nat) : Int) T (T.length : Int) (i : Int) := by
      simp only [spec_eqWitness.l0]
      rw [if_pos (by omega), if_pos (by omega), if_pos (by omega)]
      rfl
    rw [e]
    rcases wit_row a T hT i hi (rd T (i : Int)) 64 k 0 (by omega) (by omega) with h' | ⟨k', h1, h2⟩
    · exact h'
    · rw [h2, wrapS hi (by omega)]
      exact ih k' (i + 1) (by omega) (by omega)
/-- The answer, with rounds enough. -/
def depRes (xs : List INode) (a : Int) : List Int × Bool := (spec_eqWitness.f 300000 xs a).getD ([], false)
theorem wit_up (xs : List INode) (a : Int) (r : List Int × Bool) (d : Nat) : ∀ k, spec_eqWitness.f k xs a = some r → spec_eqWitness.f (k + d) xs a = some r := by
  induction d with
  | zero => intro k h; exact h
  | succ d ih => intro k h; exact spec_eqWitness.mono _ _ _ _ (ih k h)
theorem wit_s (k : Nat) (xs : List INode) (a : Int) (hE : isE xs = true) (hk : 300000 ≤ k) : spec_eqWitness.f k xs a = some (depRes xs a) ∧ (depRes xs a).1.length ≤ 3 := by
  have h : ∃ r, spec_eqWitness.f 300000 xs a = some r ∧ r.1.length ≤ 3 := by
    unfold spec_eqWitness.f
    rw [(table_f 300000 xs hE (by omega)).1, Option.bind_some]
    exact wit_main a (tableL xs) (tableL_length xs) 4096 300000 0 (by omega) (by omega)
  obtain ⟨r, h1, h2⟩ := h
  have e : depRes xs a = r := by unfold depRes; rw [h1]; rfl
  rw [e]
  refine ⟨?_, h2⟩
  have := wit_up xs a r (k - 300000) 300000 h1
  rwa [show 300000 + (k - 300000) = k by omega] at this
open Classical in
noncomputable def dependWitness_res (xs : List INode) (a : Int) : List Int × Bool := if isE xs = true ∧ (decide (0 ≤ a) && decide (a ≤ 1)) = true then depRes xs a else ([], false)
theorem wit_i (k : Nat) (xs : List INode) (a : Int) (hk : 4 * xs.length + 300100 < k) (hn : xs.length ≤ 1048576) : impl_DependWitness.f k xs a = some (dependWitness_res xs a) := by
  obtain ⟨k, rfl⟩ : ∃ m, k = m + 1 := ⟨k - 1, by omega⟩
  unfold impl_DependWitness.f dependWitness_res
  rw [isExpr_f (k + 1) xs (by omega) hn, within_f]
  simp only [Option.bind_some, impl_DependWitness.j0]
  by_cases hE : isE xs = true
  · by_cases ha : (decide (0 ≤ a) && decide (a ≤ 1)) = true
    · rw [if_pos (show isE xs = true ∧ (decide (0 ≤ a) && decide (a ≤ 1)) = true from ⟨hE, ha⟩), if_pos hE, ha, if_neg (by decide), (table_f k xs hE (by omega)).2, Option.bind_some, (wit_eq k).1]
      have h := (wit_s k xs a hE (by omega)).1
      unfold spec_eqWitness.f at h
      rw [(table_f k xs hE (by omega)).1, Option.bind_some] at h
      exact h
    · rw [if_neg (show ¬ (isE xs = true ∧ (decide (0 ≤ a) && decide (a ≤ 1)) = true) from fun h => ha h.2), if_pos hE, Bool.eq_false_iff.2 ha, if_pos (by decide)]
  · rw [if_neg (show ¬ (isE xs = true ∧ (decide (0 ≤ a) && decide (a ≤ 1)) = true) from fun h => hE h.1), if_neg hE, if_pos trivial]
end Go.Proofs.Ytaddadknmipfeaa.PureOps
