/- The values of the nodes of an expression: the one list that fits; the table's entries. Plain. -/
import Derived.Test.YtlcplhcccgbmnaaRPureTable
import Derived.Test.YtlcplhcccgbmnaaRPureIsExpr0
namespace Go.Proofs.Ytlcplhcccgbmnaa.PureOps
open Go.RowKit Go.Proofs.Ytlcplhcccgbmnaa.C Go.Proofs.YtlcplhcccgbmnaaW.PrintWords Go.Proofs.YtlcplhcccgbmnaaW.PrintLast Go.Proofs.YtlcplhcccgbmnaaW.PrintMore
set_option linter.unusedVariables false
set_option linter.unusedSimpArgs false
theorem node_kinds {n : INode} {i : Int} (hok : nodeOk n.f0.toList n.f1 n.f2 n.f3 i = true) : (n.f0.toList = [105, 110] ∧ leaf n.f0.toList = true ∧ 0 ≤ n.f3 ∧ n.f3 ≤ 1) ∨ (n.f0.toList = [99, 111, 110, 115, 116] ∧ leaf n.f0.toList = true) ∨ (leaf n.f0.toList = false ∧ one n.f0.toList = true ∧ 0 ≤ n.f1 ∧ n.f1 < i) ∨ (leaf n.f0.toList = false ∧ one n.f0.toList = false ∧ two n.f0.toList = true ∧ 0 ≤ n.f1 ∧ n.f1 < i ∧ 0 ≤ n.f2 ∧ n.f2 < i) := by
  by_cases hl : leaf n.f0.toList = true
  · have hl2 := hl
    unfold leaf at hl2
    simp only [Bool.or_eq_true, beq_iff_eq] at hl2
    rcases hl2 with h | h
    · refine .inl ⟨h, hl, ?_⟩
      unfold nodeOk at hok
      rw [if_pos hl, if_pos h] at hok
      simp only [Bool.and_eq_true, decide_eq_true_eq] at hok
      exact hok.2
    · exact .inr (.inl ⟨h, hl⟩)
  · have hlf : leaf n.f0.toList = false := by simpa using hl
    by_cases h1 : one n.f0.toList = true
    · have hp := parts_lt hok n.f1 (by unfold parts; rw [if_pos h1]; simp)
      exact .inr (.inr (.inl ⟨hlf, h1, hp.1, hp.2⟩))
    · have h2 : two n.f0.toList = true := by
        unfold nodeOk at hok
        rw [hlf, if_neg (by decide), if_neg h1] at hok
        simp only [Bool.and_eq_true] at hok
        exact hok.1.1.1
      have hp := parts_lt hok n.f1 (by unfold parts; rw [if_neg h1, if_pos h2]; simp)
      have hq := parts_lt hok n.f2 (by unfold parts; rw [if_neg h1, if_pos h2]; simp)
      exact .inr (.inr (.inr ⟨hlf, by simpa using h1, h2, hp.1, hp.2, hq.1, hq.2⟩))
/-- The value of an op, from the values of its operands. -/
def opV (n : INode) (u : List Int) : Int := if one n.f0.toList then app n.f0 (rd u n.f1) 0 else app n.f0 (rd u n.f1) (rd u n.f2)
theorem val_in {n : INode} (h : n.f0.toList = [105, 110]) (u : List Int) (x y : Int) : val n u x y = if n.f3 = 0 then x else y := by
  unfold val; rw [if_pos h]
theorem val_const {n : INode} (h : n.f0.toList = [99, 111, 110, 115, 116]) (u : List Int) (x y : Int) : val n u x y = n.f3 := by
  unfold val; rw [if_neg (by rw [h]; decide), if_pos h]
theorem val_op {n : INode} (h : leaf n.f0.toList = false) (u : List Int) (x y : Int) : val n u x y = opV n u := by
  have h1 : ¬ n.f0.toList = [105, 110] := fun e => by rw [e] at h; exact absurd h (by decide)
  have h2 : ¬ n.f0.toList = [99, 111, 110, 115, 116] := fun e => by rw [e] at h; exact absurd h (by decide)
  unfold val opV; rw [if_neg h1, if_neg h2]
theorem opV_congr {n : INode} {i : Int} (hok : nodeOk n.f0.toList n.f1 n.f2 n.f3 i = true) (hl : leaf n.f0.toList = false) {u u' : List Int} (h : ∀ p : Int, 0 ≤ p → p < i → rd u p = rd u' p) : opV n u = opV n u' := by
  rcases node_kinds hok with ⟨_, h2, _⟩ | ⟨_, h2⟩ | ⟨_, h1, p0, p1⟩ | ⟨_, h1, _, p0, p1, q0, q1⟩
  · rw [hl] at h2; cases h2
  · rw [hl] at h2; cases h2
  · unfold opV; rw [if_pos h1, if_pos h1, h _ p0 p1]
  · unfold opV; rw [h1, if_neg (by decide), if_neg (by decide), h _ p0 p1, h _ q0 q1]
theorem val_congr {n : INode} {i : Int} (hok : nodeOk n.f0.toList n.f1 n.f2 n.f3 i = true) {u u' : List Int} (h : ∀ p : Int, 0 ≤ p → p < i → rd u p = rd u' p) (x y : Int) : val n u x y = val n u' x y := by
  rcases node_kinds hok with ⟨h1, _, _⟩ | ⟨h1, _⟩ | ⟨hl, _, _, _⟩ | ⟨hl, _, _, _, _, _, _⟩
  · rw [val_in h1, val_in h1]
  · rw [val_const h1, val_const h1]
  · rw [val_op hl, val_op hl, opV_congr hok hl h]
  · rw [val_op hl, val_op hl, opV_congr hok hl h]
/-- A list is that of all nodes' values. -/
def isV (xs : List INode) (x y : Int) (L : List Int) : Prop := ∀ (j : Nat) (h : j < xs.length), rd L (j : Int) = val xs[j] L x y
theorem isV_unique (xs : List INode) (hok : okAll xs) {x y : Int} {L L' : List Int} (h : isV xs x y L) (h' : isV xs x y L') (j : Nat) : j < xs.length → rd L (j : Int) = rd L' (j : Int) := by
  induction j using Nat.strongRecOn with
  | _ j ih =>
    intro hj
    rw [h j hj, h' j hj]
    refine val_congr (hok j hj) (fun p p0 p1 => ?_) x y
    obtain ⟨q, rfl⟩ : ∃ q : Nat, p = (q : Int) := ⟨p.toNat, by omega⟩
    exact ih q (by omega) (by omega)
theorem valsFrom_V (xs : List INode) (hok : okAll xs) (x y : Int) (d : Nat) : ∀ (i : Nat) (u : List Int), i + d = xs.length → u.length = i → (∀ (j : Nat) (h : j < xs.length), j < i → rd u (j : Int) = val xs[j] u x y) → isV xs x y (valsFrom xs x y d i u) := by
  induction d with
  | zero => intro i u h hu hv j hj; exact hv j hj (by omega)
  | succ d ih =>
    intro i u h hu hv
    have hi : i < xs.length := by omega
    have hg : xs.getD i z47 = xs[i] := by rw [List.getD_eq_getElem?_getD, List.getElem?_eq_getElem hi, Option.getD_some]
    simp only [valsFrom, hg]
    have hold : ∀ p : Int, 0 ≤ p → p < (i : Int) → rd u p = rd (u ++ [val xs[i] u x y]) p := fun p p0 p1 => (rd_append p0 (by omega)).symm
    refine ih (i + 1) _ (by omega) (by simp [hu]) (fun j hj hlt => ?_)
    by_cases hji : j = i
    · subst hji
      have : rd (u ++ [val xs[j] u x y]) (j : Int) = val xs[j] u x y := by
        unfold rd
        simp [List.getD_eq_getElem?_getD, ← hu]
      rw [this]
      exact val_congr (hok j hj) hold x y
    · rw [← hold (j : Int) (by omega) (by omega), hv j hj (by omega)]
      exact val_congr (hok j hj) (fun p p0 p1 => hold p p0 (by omega)) x y
theorem vals_V (xs : List INode) (hok : okAll xs) (x y : Int) : isV xs x y (vals xs x y) := valsFrom_V xs hok x y xs.length 0 [] (by omega) rfl (fun j hj h => by omega)
theorem tab_get (xs : List INode) (y : Nat) (hy : y < 64) (j : Nat) : ∀ i, i + j < 64 → rd (tabFrom xs i) ((64 * j + y : Nat) : Int) = evalE xs ((i + j : Nat) : Int) (y : Int) := by
  induction j with
  | zero =>
    intro i hi
    rw [tabFrom_step xs (by omega)]
    have hl := rowL_length xs i
    rw [rd_append (by omega) (by rw [hl]; omega)]
    unfold rd rowL
    simp [List.getD_eq_getElem?_getD, hy]
  | succ j ih =>
    intro i hi
    rw [tabFrom_step xs (by omega)]
    have hl := rowL_length xs i
    have e := ih (i + 1) (by omega)
    rw [show i + 1 + j = i + (j + 1) by omega] at e
    rw [← e]
    unfold rd
    rw [List.getD_eq_getElem?_getD, List.getD_eq_getElem?_getD, List.getElem?_append_right (by rw [hl]; omega)]
    congr 2
    rw [hl]
    omega
theorem tableL_at (xs : List INode) {x y : Nat} (hx : x < 64) (hy : y < 64) : rd (tableL xs) ((64 * x + y : Nat) : Int) = evalE xs (x : Int) (y : Int) := by
  have := tab_get xs y hy x 0 (by omega)
  rwa [Nat.zero_add] at this
end Go.Proofs.Ytlcplhcccgbmnaa.PureOps
