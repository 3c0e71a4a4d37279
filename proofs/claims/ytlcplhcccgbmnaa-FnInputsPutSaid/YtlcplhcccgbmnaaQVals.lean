/- The values of the nodes of an expression: the one list that fits. Plain. -/
import Derived.Test.YtlcplhcccgbmnaaQPureValues
import Derived.Test.YtlcplhcccgbmnaaQPureIsExpr0
namespace Go.Proofs.Ytlcplhcccgbmnaa.PureOps
open Go.RowKit Go.Proofs.Ytlcplhcccgbmnaa.B Go.Proofs.YtlcplhcccgbmnaaW.PrintWords Go.Proofs.YtlcplhcccgbmnaaW.PrintLast Go.Proofs.YtlcplhcccgbmnaaW.PrintMore
set_option linter.unusedVariables false
set_option linter.unusedSimpArgs false
theorem node_kinds {n : INode} {i : Int} (hok : nodeOk n.f0.toList n.f1 n.f2 n.f3 i = true) : (n.f0.toList = [105, 110] ∧ leaf n.f0.toList = true ∧ 0 ≤ n.f3 ∧ n.f3 ≤ 1) ∨ (n.f0.toList = [99, 111, 110, 115, 116] ∧ leaf n.f0.toList = true) ∨ (leaf n.f0.toList = false ∧ one n.f0.toList = true ∧ 0 ≤ n.f1 ∧ n.f1 < i) ∨ (leaf n.f0.toList = false ∧ one n.f0.toList = false ∧ two n.f0.toList = true ∧ 0 ≤ n.f1 ∧ n.f1 < i ∧ 0 ≤ n.f2 ∧ n.f2 < i) := by
  by_cases hl : leaf n.f0.toList = true
  · have hl2 := hl
    unfold leaf at hl2
    simp only [Bool.or_eq_true, beq_iff_eq] at hl2
    rcases hl2 with h | h
    · refine .inl ⟨h, hl, ?_⟩
      unfold nodeOk at hok
      rw [if_pos hl, if_pos h] at hok
      simp only [Bool.and_eq_true, decide_eq_true_eq] at hok
      exact hok.2
    · exact .inr (.inl ⟨h, hl⟩)
  · have hlf : leaf n.f0.toList = false := by simpa using hl
    by_cases h1 : one n.f0.toList = true
    · have hp := parts_lt hok n.f1 (by unfold parts; rw [if_pos h1]; simp)
      exact .inr (.inr (.inl ⟨hlf, h1, hp.1, hp.2⟩))
    · have h2 : two n.f0.toList = true := by
        unfold nodeOk at hok
        rw [hlf, if_neg (by decide), if_neg h1] at hok
        simp only [Bool.and_eq_true] at hok
        exact hok.1.1.1
      have hp := parts_lt hok n.f1 (by unfold parts; rw [if_neg h1, if_pos h2]; simp)
      have hq := parts_lt hok n.f2 (by unfold parts; rw [if_neg h1, if_pos h2]; simp)
      exact .inr (.inr (.inr ⟨hlf, by simpa using h1, h2, hp.1, hp.2, hq.1, hq.2⟩))
/-- The value of an op, from the values of its operands. -/
def opV (n : INode) (u : List Int) : Int := if one n.f0.toList then app n.f0 (rd u n.f1) 0 else app n.f0 (rd u n.f1) (rd u n.f2)
theorem val_in {n : INode} (h : n.f0.toList = [105, 110]) (u : List Int) (x y : Int) : val n u x y = if n.f3 = 0 then x else y := by
  unfold val; rw [if_pos h]
theorem val_const {n : INode} (h : n.f0.toList = [99, 111, 110, 115, 116]) (u : List Int) (x y : Int) : val n u x y = n.f3 := by
  unfold val; rw [if_neg (by rw [h]; decide), if_pos h]
theorem val_op {n : INode} (h : leaf n.f0.toList = false) (u : List Int) (x y : Int) : val n u x y = opV n u := by
  have h1 : ¬ n.f0.toList = [105, 110] := fun e => by rw [e] at h; exact absurd h (by decide)
  have h2 : ¬ n.f0.toList = [99, 111, 110, 115, 116] := fun e => by rw [e] at h; exact absurd h (by decide)
  unfold val opV; rw [if_neg h1, if_neg h2]
theorem opV_congr {n : INode} {i : Int} (hok : nodeOk n.f0.toList n.f1 n.f2 n.f3 i = true) (hl : leaf n.f0.toList = false) {u u' : List Int} (h : ∀ p : Int, 0 ≤ p → p < i → rd u p = rd u' p) : opV n u = opV n u' := by
  rcases node_kinds hok with ⟨_, h2, _⟩ | ⟨_, h2⟩ | ⟨_, h1, p0, p1⟩ | ⟨_, h1, _, p0, p1, q0, q1⟩
  · rw [hl] at h2; cases h2
  · rw [hl] at h2; cases h2
  · unfold opV; rw [if_pos h1, if_pos h1, h _ p0 p1]
  · unfold opV; rw [h1, if_neg (by decide), if_neg (by decide), h _ p0 p1, h _ q0 q1]
theorem val_congr {n : INode} {i : Int} (hok : nodeOk n.f0.toList n.f1 n.f2 n.f3 i = true) {u u' : List Int} (h : ∀ p : Int, 0 ≤ p → p < i → rd u p = rd u' p) (x y : Int) : val n u x y = val n u' x y := by
  rcases node_kinds hok with ⟨h1, _, _⟩ | ⟨h1, _⟩ | ⟨hl, _, _, _⟩ | ⟨hl, _, _, _, _, _, _⟩
  · rw [val_in h1, val_in h1]
  · rw [val_const h1, val_const h1]
  · rw [val_op hl, val_op hl, opV_congr hok hl h]
  · rw [val_op hl, val_op hl, opV_congr hok hl h]
/-- A list is that of all nodes' values. -/
def isV (xs : List INode) (x y : Int) (L : List Int) : Prop := ∀ (j : Nat) (h : j < xs.length), rd L (j : Int) = val xs[j] L x y
theorem isV_unique (xs : List INode) (hok : okAll xs) {x y : Int} {L L' : List Int} (h : isV xs x y L) (h' : isV xs x y L') (j : Nat) : j < xs.length → rd L (j : Int) = rd L' (j : Int) := by
  induction j using Nat.strongRecOn with
  | _ j ih =>
    intro hj
    rw [h j hj, h' j hj]
    refine val_congr (hok j hj) (fun p p0 p1 => ?_) x y
    obtain ⟨q, rfl⟩ : ∃ q : Nat, p = (q : Int) := ⟨p.toNat, by omega⟩
    exact ih q (by omega) (by omega)
theorem valsFrom_V (xs : List INode) (hok : okAll xs) (x y : Int) (d : Nat) : ∀ (i : Nat) (u : List Int), i + d = xs.length → u.length = i → (∀ (j : Nat) (h : j < xs.length), j < i → rd u (j : Int) = val xs[j] u x y) → isV xs x y (valsFrom xs x y d i u) := by
  induction d with
  | zero => intro i u h hu hv j hj; exact hv j hj (by omega)
  | succ d ih =>
    intro i u h hu hv
    have hi : i < xs.length := by omega
    have hg : xs.getD i z47 = xs[i] := by rw [List.getD_eq_getElem?_getD, List.getElem?_eq_getElem hi, Option.getD_some]
    simp only [valsFrom, hg]
    have hold : ∀ p : Int, 0 ≤ p → p < (i : Int) → rd u p = rd (u ++ [val xs[i] u x y]) p := fun p p0 p1 => (rd_append p0 (by omega)).symm
    refine ih (i + 1) _ (by omega) (by simp [hu]) (fun j hj hlt => ?_)
    by_cases hji : j = i
    · subst hji
      have : rd (u ++ [val xs[j] u x y]) (j : Int) = val xs[j] u x y := by
        unfold rd
        simp [List.getD_eq_getElem?_getD, ← hu]
      rw [this]
      exact val_congr (hok j hj) hold x y
    · rw [← hold (j : Int) (by omega) (by omega), hv j hj (by omega)]
      exact val_congr (hok j hj) (fun p p0 p1 => hold p p0 (by omega)) x y
theorem vals_V (xs : List INode) (hok : okAll xs) (x y : Int) : isV xs x y (vals xs x y) := valsFrom_V xs hok x y xs.length 0 [] (by omega) rfl (fun j hj h => by omega)
/-- The value of an expression. -/
def evalE (xs : List INode) (x y : Int) : Int := rd (vals xs x y) ((xs.length - 1 : Nat) : Int)
theorem eval_i (k : Nat) (xs : List INode) (hE : isE xs = true) {x y : Int} (hx : word x = true) (hy : word y = true) (hk : 100 < k) :
    impl_eval.f k xs x y = some (evalE xs x y) := by
  obtain ⟨h1, h2, h3, h4⟩ := values_f k xs hE hx hy hk
  obtain ⟨q1, q2, _⟩ := isE_true hE
  have hw : wrap64 ((xs.length : Int) - 1) = ((xs.length - 1 : Nat) : Int) := by rw [wrap64_small (by omega) (by omega)]; omega
  unfold impl_eval.f
  simp only [h2, Option.bind_some, hw]
  rw [if_pos (by omega), if_pos (by omega)]
  rfl
theorem evalE_word (xs : List INode) (hE : isE xs = true) {x y : Int} (hx : word x = true) (hy : word y = true) : 0 ≤ evalE xs x y ∧ evalE xs x y ≤ 63 :=
  rd_word (values_f 101 xs hE hx hy (by omega)).2.2.2 _
theorem evalExpr_i (k : Nat) (xs : List INode) (hE : isE xs = true) {x y : Int} (hx : word x = true) (hy : word y = true) (hk : 200 < k) : impl_EvalExpr.f k xs x y = some (evalE xs x y, true) := by
  obtain ⟨n1, n2, _⟩ := isE_true hE
  unfold impl_EvalExpr.f impl_areRight.f
  rw [isExpr_f k xs (by omega) (by omega), isWord_f, isWord_f, hx, hy]
  simp only [Option.bind_some, hE, if_true, eval_i k xs hE hx hy (by omega)]
theorem word_nat {j : Nat} (h : j < 64) : word (j : Int) = true := word_iff.2 ⟨by omega, by omega⟩
theorem getD_at (xs : List INode) {j : Nat} (h : j < xs.length) : xs.getD j z47 = xs[j] := by rw [List.getD_eq_getElem?_getD, List.getElem?_eq_getElem h, Option.getD_some]
/-- What stands behind does not change the values of what stands before. -/
theorem vals_pre (xs ys : List INode) (hok : okAll xs) (hoy : okAll ys) (hl : ys.length ≤ xs.length) (he : ∀ (q : Nat) (h : q < ys.length), xs.getD q z47 = ys[q]) (x y : Int) (q : Nat) (hq : q < ys.length) : rd (vals xs x y) (q : Int) = rd (vals ys x y) (q : Int) := by
  refine isV_unique ys hoy (L := vals xs x y) (L' := vals ys x y) (x := x) (y := y) (fun j hj => ?_) (vals_V ys hoy x y) q hq
  have e := he j hj
  rw [getD_at xs (by omega)] at e
  rw [vals_V xs hok x y j (by omega), e]
/-- An input that stands nowhere does not matter. -/
theorem vals_free (xs : List INode) (hok : okAll xs) (x y x' y' : Int) (h : ∀ (q : Nat) (hq : q < xs.length), xs[q].f0.toList = [105, 110] → (if xs[q].f3 = 0 then x else y) = (if xs[q].f3 = 0 then x' else y')) (q : Nat) (hq : q < xs.length) : rd (vals xs x y) (q : Int) = rd (vals xs x' y') (q : Int) := by
  refine isV_unique xs hok (L := vals xs x y) (L' := vals xs x' y') (x := x') (y := y') (fun j hj => ?_) (vals_V xs hok x' y') q hq
  rw [vals_V xs hok x y j hj]
  rcases node_kinds (hok j hj) with ⟨h1, _, _⟩ | ⟨h1, _⟩ | ⟨hl, _, _, _⟩ | ⟨hl, _, _, _, _, _, _⟩
  · rw [val_in h1, val_in h1]; exact h j hj h1
  · rw [val_const h1, val_const h1]
  · rw [val_op hl, val_op hl]
  · rw [val_op hl, val_op hl]
end Go.Proofs.Ytlcplhcccgbmnaa.PureOps
