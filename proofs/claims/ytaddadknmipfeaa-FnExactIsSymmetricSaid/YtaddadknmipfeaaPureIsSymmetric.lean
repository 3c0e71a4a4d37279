/- IsSymmetric of the program and of the reference agree for all arguments. -/
import Derived.Test.YtaddadknmipfeaaPureTable
import Derived.Test.YtaddadknmipfeaaFSpecIsSymmetric
namespace Go.Proofs.Ytaddadknmipfeaa.PureOps
open Go.RowKit Go.Proofs.Ytaddadknmipfeaa.F Go.Proofs.YtaddadknmipfeaaW.PrintWords Go.Proofs.YtaddadknmipfeaaW.PrintLast Go.Proofs.YtaddadknmipfeaaW.PrintMore Go.Proofs.Ytaddadknmipfeaa.MKinds
set_option linter.unusedVariables false
set_option linter.unusedSimpArgs false
theorem at_f {i : Nat} (h : i < 4096) : wrap64 (wrap64 (64 * Int.tmod (i : Int) 64) + wrap64 (Int.tdiv (i : Int) 64)) = ((64 * (i % 64) + i / 64 : Nat) : Int) := by
  rw [Int.tmod_eq_emod_of_nonneg (by omega), Int.tdiv_eq_ediv_of_nonneg (by omega), wrap64_small (n := 64 * ((i : Int) % 64)) (by omega) (by omega), wrap64_small (n := (i : Int) / 64) (by omega) (by omega), wrap64_small (by omega) (by omega)]
  omega
def symAt (T : List Int) (i : Nat) : Bool := decide (rd T ((64 * (i % 64) + i / 64 : Nat) : Int) = rd T (i : Int))
def symL (T : List Int) : Bool := ((List.range T.length).drop 0).all (symAt T)
theorem sym_s (T : List Int) (hT : T.length = 4096) (k : Nat) (hk : 5000 < k) : spec_IsSymmetric.l0 k T T (T.length : Int) 0 = some (if symL T = true then (true, true) else (false, true)) := by
  refine all_loop (fun k i => spec_IsSymmetric.l0 k T T (T.length : Int) i) T.length (by omega) 0 (symAt T) (false, true) (fun _ => some (true, true)) (true, true) ?_ ?_ (fun _ _ => rfl) T.length k 0 (by omega) (by omega)
  · intro k i _ h
    have hi : ((64 * (i % 64) + i / 64 : Nat) : Int) < (T.length : Int) := by omega
    have h0 : (0 : Int) ≤ ((64 * (i % 64) + i / 64 : Nat) : Int) := Int.natCast_nonneg _
    have ha := at_f (show i < 4096 by omega)
    simp only [spec_IsSymmetric.l0]
    rw [ha]
    unfold symAt
    generalize ((64 * (i % 64) + i / 64 : Nat) : Int) = q at hi h0
    by_cases e : rd T q = rd T (i : Int)
    · rw [if_pos (by omega), if_pos (by omega), if_pos (by omega), if_pos h0, if_pos hi, if_pos e, if_pos (decide_eq_true e)]
    · rw [if_pos (by omega), if_pos (by omega), if_pos (by omega), if_pos h0, if_pos hi, if_neg e, if_neg (fun h => e (of_decide_eq_true h))]
  · intro k
    simp only [spec_IsSymmetric.l0]
    rw [if_neg (by omega)]
theorem inputsAt_f {i : Nat} (h : i < 4096) : ∃ p q, impl_inputsAt.f (i : Int) = some (p, q) ∧ wrap64 (wrap64 (64 * q) + p) = ((64 * (i % 64) + i / 64 : Nat) : Int) := ⟨_, _, rfl, at_f h⟩
theorem sym_i (T : List Int) (hT : T.length = 4096) (k : Nat) (hk : 5000 < k) : impl_IsSymmetric.l0 k T T (T.length : Int) 0 = some (if symL T = true then (true, true) else (false, true)) := by
  refine all_loop (fun k i => impl_IsSymmetric.l0 k T T (T.length : Int) i) T.length (by omega) 0 (symAt T) (false, true) (fun _ => some (true, true)) (true, true) ?_ ?_ (fun _ _ => rfl) T.length k 0 (by omega) (by omega)
  · intro k i _ h
    have hi : ((64 * (i % 64) + i / 64 : Nat) : Int) < (T.length : Int) := by omega
    have h0 : (0 : Int) ≤ ((64 * (i % 64) + i / 64 : Nat) : Int) := Int.natCast_nonneg _
    obtain ⟨p', q', ha, hb⟩ := inputsAt_f (show i < 4096 by omega)
    simp only [impl_IsSymmetric.l0]
    rw [ha, Option.bind_some]
    dsimp only
    rw [hb]
    unfold symAt
    generalize ((64 * (i % 64) + i / 64 : Nat) : Int) = q at hi h0
    by_cases e : rd T q = rd T (i : Int)
    · rw [if_pos (by omega), if_pos (by omega), if_pos (by omega), if_pos h0, if_pos hi, if_pos e, if_pos (decide_eq_true e)]
    · rw [if_pos (by omega), if_pos (by omega), if_pos (by omega), if_pos h0, if_pos hi, if_neg e, if_neg (fun h => e (of_decide_eq_true h))]
  · intro k
    simp only [impl_IsSymmetric.l0]
    rw [if_neg (by omega)]
theorem isSymmetric_same (k : Nat) (xs : List INode) (hk : 4 * xs.length + 5960 < k) (hn : xs.length ≤ 1048576) :
    ∃ r, spec_IsSymmetric.f k xs = some r ∧ impl_IsSymmetric.f k xs = some r := by
  unfold spec_IsSymmetric.f impl_IsSymmetric.f
  rw [good_f k xs (by omega) hn, isExpr_f k xs (by omega) hn, Option.bind_some, Option.bind_some]
  by_cases hE : isE xs = true
  · rw [if_pos hE, if_pos hE, (table_f k xs hE (by omega)).1, (table_f k xs hE (by omega)).2, Option.bind_some, Option.bind_some]
    exact ⟨_, sym_s _ (tableL_length xs) k (by omega), sym_i _ (tableL_length xs) k (by omega)⟩
  · rw [if_neg hE, if_neg hE]
    exact ⟨_, rfl, rfl⟩
theorem isSymmetric_true (xs : List LNode) (hn : xs.length ≤ 9223372036854775807) (hs : ∀ x ∈ xs, x.f0.size ≤ 9223372036854775807) : laws_FnExactIsSymmetric.f (4 * xs.length + 6000) xs = some true := by
  unfold laws_FnExactIsSymmetric.f
  obtain ⟨r, hr, _, hl⟩ := szNodeS_f (4 * xs.length + 6000) xs 1048576 (by omega) (by omega) hn hs (by omega)
  rw [hr, Option.bind_some]
  by_cases h : r < 0
  · rw [if_pos h]
  · rw [if_neg h]
    have hn2 : xs.length ≤ 1048576 := by have := hl (by omega); omega
    have hn3 : (xs.map convN).length ≤ 1048576 := by simpa using hn2
    have j0 : laws_FnExactIsSymmetric.j0 (4 * xs.length + 6000) xs (xs.map convN) false = some true := by
      rw [show 4 * xs.length + 6000 = (4 * xs.length + 5999) + 1 by omega]
      simp only [laws_FnExactIsSymmetric.j0]
      rw [if_neg (by decide), toNodeS_f (4 * xs.length + 5999) xs hn2 (by omega), Option.bind_some, eqNodeS_f (4 * xs.length + 5999) (xs.map convN) hn3 (by rw [List.length_map]; omega), Option.bind_some, if_pos rfl]
    rw [toNodeS_f (4 * xs.length + 6000) xs hn2 (by omega)]
    obtain ⟨q, h1, h2⟩ := isSymmetric_same (4 * xs.length + 6000) (xs.map convN) (by rw [List.length_map]; omega) hn3
    simp only [Option.bind_some, h1, h2]
    simpa using j0
theorem isSymmetric_walk (A : Option Addr) (c : Nat) (xs : List LNode) (hl0 : xs.length ≤ c) (W : World) (hr0 : Kd.C k87 W A xs.length xs) (hm0 : xs.length ≤ maxLen) (ho0 : ∀ x ∈ xs, nodeSOk x) :
    Calls Try.prog 11 #[.slice A xs.length c] W fun e w' => e = .returned (.bool true) ∧ Below W.heap.size W w' :=
  laws_FnExactIsSymmetric.calls (4 * xs.length + 6000) A c xs true W hr0 hl0 (isSymmetric_true xs (len_ok hm0) (nodes_ok ho0)) rfl
end Go.Proofs.Ytaddadknmipfeaa.PureOps
