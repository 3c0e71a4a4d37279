/- The values of the nodes of an expression: the one list that fits. Plain. -/
import Derived.Test.YtlcplhcccgbmnaaUPureValues
import Derived.Test.YtlcplhcccgbmnaaUPureIsExpr0
namespace Go.Proofs.Ytlcplhcccgbmnaa.PureOps
open Go.RowKit Go.Proofs.Ytlcplhcccgbmnaa.D Go.Proofs.YtlcplhcccgbmnaaW.PrintWords Go.Proofs.YtlcplhcccgbmnaaW.PrintLast Go.Proofs.YtlcplhcccgbmnaaW.PrintMore
set_option linter.unusedVariables false
set_option linter.unusedSimpArgs false
theorem node_kinds {n : INode} {i : Int} (hok : nodeOk n.f0.toList n.f1 n.f2 n.f3 i = true) : (n.f0.toList = [105, 110] ∧ leaf n.f0.toList = true ∧ 0 ≤ n.f3 ∧ n.f3 ≤ 1) ∨ (n.f0.toList = [99, 111, 110, 115, 116] ∧ leaf n.f0.toList = true) ∨ (leaf n.f0.toList = false ∧ one n.f0.toList = true ∧ 0 ≤ n.f1 ∧ n.f1 < i) ∨ (leaf n.f0.toList = false ∧ one n.f0.toList = false ∧ two n.f0.toList = true ∧ 0 ≤ n.f1 ∧ n.f1 < i ∧ 0 ≤ n.f2 ∧ n.f2 < i) := by
  by_cases hl : leaf n.f0.toList = true
  · have hl2 := hl
    unfold leaf at hl2
    simp only [Bool.or_eq_true, beq_iff_eq] at hl2
    rcases hl2 with h | h
    · refine .inl ⟨h, hl, ?_⟩
      unfold nodeOk at hok
      rw [if_pos hl, if_pos h] at hok
      simp only [Bool.and_eq_true, decide_eq_true_eq] at hok
      exact hok.2
    · exact .inr (.inl ⟨h, hl⟩)
  · have hlf : leaf n.f0.toList = false := by simpa using hl
    by_cases h1 : one n.f0.toList = true
    · have hp := parts_lt hok n.f1 (by unfold parts; rw [if_pos h1]; simp)
      exact .inr (.inr (.inl ⟨hlf, h1, hp.1, hp.2⟩))
    · have h2 : two n.f0.toList = true := by
        unfold nodeOk at hok
        rw [hlf, if_neg (by decide), if_neg h1] at hok
        simp only [Bool.and_eq_true] at hok
        exact hok.1.1.1
      have hp := parts_lt hok n.f1 (by unfold parts; rw [if_neg h1, if_pos h2]; simp)
      have hq := parts_lt hok n.f2 (by unfold parts; rw [if_neg h1, if_pos h2]; simp)
      exact .inr (.inr (.inr ⟨hlf, by simpa using h1, h2, hp.1, hp.2, hq.1, hq.2⟩))
/-- The value of an op, from the values of its operands. -/
def opV (n : INode) (u : List Int) : Int := if one n.f0.toList then app n.f0 (rd u n.f1) 0 else app n.f0 (rd u n.f1) (rd u n.f2)
theorem val_in {n : INode} (h : n.f0.toList = [105, 110]) (u : List Int) (x y : Int) : val n u x y = if n.f3 = 0 then x else y := by
  unfold val; rw [if_pos h]
theorem val_const {n : INode} (h : n.f0.toList = [99, 111, 110, 115, 116]) (u : List Int) (x y : Int) : val n u x y = n.f3 := by
  unfold val; rw [if_neg (by rw [h]; decide), if_pos h]
theorem val_op {n : INode} (h : leaf n.f0.toList = false) (u : List Int) (x y : Int) : val n u x y = opV n u := by
  have h1 : ¬ n.f0.toList = [105, 110] := fun e => by rw [e] at h; exact absurd h (by decide)
  have h2 : ¬ n.f0.toList = [99, 111, 110, 115, 116] := fun e => by rw [e] at h; exact absurd h (by decide)
  unfold val opV; rw [if_neg h1, if_neg h2]
theorem opV_congr {n : INode} {i : Int} (hok : nodeOk n.f0.toList n.f1 n.f2 n.f3 i = true) (hl : leaf n.f0.toList = false) {u u' : List Int} (h : ∀ p : Int, 0 ≤ p → p < i → rd u p = rd u' p) : opV n u = opV n u' := by
  rcases node_kinds hok with ⟨_, h2, _⟩ | ⟨_, h2⟩ | ⟨_, h1, p0, p1⟩ | ⟨_, h1, _, p0, p1, q0, q1⟩
  · rw [hl] at h2; cases h2
  · rw [hl] at h2; cases h2
  · unfold opV; rw [if_pos h1, if_pos h1, h _ p0 p1]
  · unfold opV; rw [h1, if_neg (by decide), if_neg (by decide), h _ p0 p1, h _ q0 q1]
theorem val_congr {n : INode} {i : Int} (hok : nodeOk n.f0.toList n.f1 n.f2 n.f3 i = true) {u u' : List Int} (h : ∀ p : Int, 0 ≤ p → p < i → rd u p = rd u' p) (x y : Int) : val n u x y = val n u' x y := by
  rcases node_kinds hok with ⟨h1, _, _⟩ | ⟨h1, _⟩ | ⟨hl, _, _, _⟩ | ⟨hl, _, _, _, _, _, _⟩
  · rw [val_in h1, val_in h1]
  · rw [val_const h1, val_const h1]
  · rw [val_op hl, val_op hl, opV_congr hok hl h]
  · rw [val_op hl, val_op hl, opV_congr hok hl h]
/-- A list is that of all nodes' values. -/
def isV (xs : List INode) (x y : Int) (L : List Int) : Prop := ∀ (j : Nat) (h : j < xs.length), rd L (j : Int) = val xs[j] L x y
theorem isV_unique (xs : List INode) (hok : okAll xs) {x y : Int} {L L' : List Int} (h : isV xs x y L) (h' : isV xs x y L') (j : Nat) : j < xs.length → rd L (j : Int) = rd L' (j : Int) := by
  induction j using Nat.strongRecOn with
  | _ j ih =>
    intro hj
    rw [h j hj, h' j hj]
    refine val_congr (hok j hj) (fun p p0 p1 => ?_) x y
    obtain ⟨q, rfl⟩ : ∃ q : Nat, p = (q : Int) := ⟨p.toNat, by omega⟩
    exact ih q (by omega) (by omega)
theorem valsFrom_V (xs : List INode) (hok : okAll xs) (x y : Int) (d : Nat) : ∀ (i : Nat) (u : List Int), i + d = xs.length → u.length = i → (∀ (j : Nat) (h : j < xs.length), j < i → rd u (j : Int) = val xs[j] u x y) → isV xs x y (valsFrom xs x y d i u) := by
  induction d with
  | zero => intro i u h hu hv j hj; exact hv j hj (by omega)
  | succ d ih =>
    intro i u h hu hv
    have hi : i < xs.length := by omega
    have hg : xs.getD i z47 = xs[i] := by rw [List.getD_eq_getElem?_getD, List.getElem?_eq_getElem hi, Option.getD_some]
    simp only [valsFrom, hg]
    have hold : ∀ p : Int, 0 ≤ p → p < (i : Int) → rd u p = rd (u ++ [val xs[i] u x y]) p := fun p p0 p1 => (rd_append p0 (by omega)).symm
    refine ih (i + 1) _ (by omega) (by simp [hu]) (fun j hj hlt => ?_)
    by_cases hji : j = i
    · subst hji
      have : rd (u ++ [val xs[j] u x y]) (j : Int) = val xs[j] u x y := by
        unfold rd
        simp [List.getD_eq_getElem?_getD, ← hu]
      rw [this]
      exact val_congr (hok j hj) hold x y
    · rw [← hold (j : Int) (by omega) (by omega), hv j hj (by omega)]
      exact val_congr (hok j hj) (fun p p0 p1 => hold p p0 (by omega)) x y
theorem vals_V (xs : List INode) (hok : okAll xs) (x y : Int) : isV xs x y (vals xs x y) := valsFrom_V xs hok x y xs.length 0 [] (by omega) rfl (fun j hj h => by omega)
/-- The value of an expression. -/
def evalE (xs : List INode) (x y : Int) : Int := rd (vals xs x y) ((xs.length - 1 : Nat) : Int)
theorem eval_i (k : Nat) (xs : List INode) (hE : isE xs = true) {x y : Int} (hx : word x = true) (hy : word y = true) (hk : 100 < k) :
    impl_eval.f k xs x y = some (evalE xs x y) := by
  obtain ⟨h1, h2, h3, h4⟩ := values_f k xs hE hx hy hk
  obtain ⟨q1, q2, _⟩ := isE_true hE
  have hw : wrap64 ((xs.length : Int) - 1) = ((xs.length - 1 : Nat) : Int) := by rw [wrap64_small (by omega) (by omega)]; omega
  unfold impl_eval.f
  simp only [h2, Option.bind_some, hw]
  rw [if_pos (by omega), if_pos (by omega)]
  rfl
theorem evalE_word (xs : List INode) (hE : isE xs = true) {x y : Int} (hx : word x = true) (hy : word y = true) : 0 ≤ evalE xs x y ∧ evalE xs x y ≤ 63 :=
  rd_word (values_f 101 xs hE hx hy (by omega)).2.2.2 _
theorem word_nat {j : Nat} (h : j < 64) : word (j : Int) = true := word_iff.2 ⟨by omega, by omega⟩
theorem getD_at (xs : List INode) {j : Nat} (h : j < xs.length) : xs.getD j z47 = xs[j] := by rw [List.getD_eq_getElem?_getD, List.getElem?_eq_getElem h, Option.getD_some]
/-- What stands behind does not change the values of what stands before. -/
theorem vals_pre (xs ys : List INode) (hok : okAll xs) (hoy : okAll ys) (hl : ys.length ≤ xs.length) (he : ∀ (q : Nat) (h : q < ys.length), xs.getD q z47 = ys[q]) (x y : Int) (q : Nat) (hq : q < ys.length) : rd (vals xs x y) (q : Int) = rd (vals ys x y) (q : Int) := by
  refine isV_unique ys hoy (L := vals xs x y) (L' := vals ys x y) (x := x) (y := y) (fun j hj => ?_) (vals_V ys hoy x y) q hq
  have e := he j hj
  rw [getD_at xs (by omega)] at e
  rw [vals_V xs hok x y j (by omega), e]
/-- An input that stands nowhere does not matter. -/
theorem vals_free (xs : List INode) (hok : okAll xs) (x y x' y' : Int) (h : ∀ (q : Nat) (hq : q < xs.length), xs[q].f0.toList = [105, 110] → (if xs[q].f3 = 0 then x else y) = (if xs[q].f3 = 0 then x' else y')) (q : Nat) (hq : q < xs.length) : rd (vals xs x y) (q : Int) = rd (vals xs x' y') (q : Int) := by
  refine isV_unique xs hok (L := vals xs x y) (L' := vals xs x' y') (x := x') (y := y') (fun j hj => ?_) (vals_V xs hok x' y') q hq
  rw [vals_V xs hok x y j hj]
  rcases node_kinds (hok j hj) with ⟨h1, _, _⟩ | ⟨h1, _⟩ | ⟨hl, _, _, _⟩ | ⟨hl, _, _, _, _, _, _⟩
  · rw [val_in h1, val_in h1]; exact h j hj h1
  · rw [val_const h1, val_const h1]
  · rw [val_op hl, val_op hl]
  · rw [val_op hl, val_op hl]
def rowL (xs : List INode) (x j : Nat) : List Int := ((List.range 64).drop j).map fun (y : Nat) => evalE xs (x : Int) (y : Int)
/-- The rows of the table, from a place on. -/
def tabFrom (xs : List INode) (i : Nat) : List Int := ((List.range 64).drop i).flatMap fun (x : Nat) => rowL xs x 0
def tableL (xs : List INode) : List Int := tabFrom xs 0
theorem range64_end : (List.range 64).drop 64 = [] := by simp
theorem range64_step {j : Nat} (h : j < 64) : (List.range 64).drop j = j :: (List.range 64).drop (j + 1) := by
  rw [List.drop_eq_getElem_cons (by simpa using h), List.getElem_range]
theorem rowL_end (xs : List INode) (x : Nat) : rowL xs x 64 = [] := by unfold rowL; rw [range64_end]; rfl
theorem rowL_step (xs : List INode) (x : Nat) {j : Nat} (h : j < 64) : rowL xs x j = evalE xs (x : Int) (j : Int) :: rowL xs x (j + 1) := by
  unfold rowL; rw [range64_step h, List.map_cons]
theorem rowL_length (xs : List INode) (x : Nat) : (rowL xs x 0).length = 64 := by simp [rowL]
theorem tabFrom_end (xs : List INode) : tabFrom xs 64 = [] := by unfold tabFrom; rw [range64_end]; rfl
theorem tabFrom_step (xs : List INode) {i : Nat} (h : i < 64) : tabFrom xs i = rowL xs i 0 ++ tabFrom xs (i + 1) := by
  unfold tabFrom; rw [range64_step h, List.flatMap_cons]
theorem tabFrom_length (xs : List INode) (d : Nat) : ∀ i, i + d = 64 → (tabFrom xs i).length = 64 * d := by
  induction d with
  | zero => intro i h; obtain rfl : i = 64 := by omega
            rw [tabFrom_end]; rfl
  | succ d ih => intro i h; rw [tabFrom_step xs (by omega), List.length_append, rowL_length, ih (i + 1) (by omega)]; omega
theorem tableL_length (xs : List INode) : (tableL xs).length = 4096 := tabFrom_length xs 64 0 (by omega)
theorem row_i (xs : List INode) (hE : isE xs = true) (x : Nat) (hx : x < 64) (e : Nat) : ∀ (k j : Nat) (u : List Int), j + e = 64 → e + 110 < k → u.length + e ≤ 5000 →
    ∃ k', k ≤ k' + e + 1 ∧ impl_table_impl_tableOf_c1.l1 k xs u (x : Int) (x : Int) (j : Int) = impl_table_impl_tableOf_c1.l0 k' xs (u ++ rowL xs x j) (wrap64 ((x : Int) + 1)) := by
  induction e with
  | zero =>
    intro k j u h hk hu
    obtain ⟨k, rfl⟩ : ∃ m, k = m + 1 := ⟨k - 1, by omega⟩
    refine ⟨k, by omega, ?_⟩
    obtain rfl : j = 64 := by omega
    simp only [impl_table_impl_tableOf_c1.l1]
    rw [if_neg (by omega), rowL_end, List.append_nil]
  | succ e ih =>
    intro k j u h hk hu
    obtain ⟨k, rfl⟩ : ∃ m, k = m + 1 := ⟨k - 1, by omega⟩
    have hj : j < 64 := by omega
    obtain ⟨k', hk', e'⟩ := ih k (j + 1) (u ++ [evalE xs (x : Int) (j : Int)]) (by omega) (by omega) (by simp; omega)
    refine ⟨k', by omega, ?_⟩
    simp only [impl_table_impl_tableOf_c1.l1, impl_tableOf_c1_v.f]
    rw [if_pos (by omega), eval_i k xs hE (word_nat hx) (word_nat hj) (by omega), Option.bind_some, Option.bind_some, if_pos (by omega), wrapS hj (by omega), e', rowL_step xs x hj, List.append_assoc]
    rfl
theorem table_i0 (xs : List INode) (hE : isE xs = true) (d : Nat) : ∀ (k i : Nat) (u : List Int), i + d = 64 → 70 * d + 200 < k → u.length + 64 * d ≤ 4500 →
    impl_table_impl_tableOf_c1.l0 k xs u (i : Int) = some (u ++ tabFrom xs i) := by
  induction d with
  | zero =>
    intro k i u h hk hu
    obtain ⟨k, rfl⟩ : ∃ m, k = m + 1 := ⟨k - 1, by omega⟩
    obtain rfl : i = 64 := by omega
    simp only [impl_table_impl_tableOf_c1.l0]
    rw [if_neg (by omega), tabFrom_end, List.append_nil]
  | succ d ih =>
    intro k i u h hk hu
    obtain ⟨k, rfl⟩ : ∃ m, k = m + 1 := ⟨k - 1, by omega⟩
    have hi : i < 64 := by omega
    obtain ⟨k2, hk2, e2⟩ := row_i xs hE i hi 64 k 0 u (by omega) (by omega) (by omega)
    have hl : (u ++ rowL xs i 0).length + 64 * d ≤ 4500 := by rw [List.length_append, rowL_length]; omega
    simp only [impl_table_impl_tableOf_c1.l0]
    rw [if_pos (by omega), show (0 : Int) = ((0 : Nat) : Int) from rfl, e2, wrapS hi (by omega), ih k2 (i + 1) _ (by omega) (by omega) hl, tabFrom_step xs hi, List.append_assoc]
theorem table_i (k : Nat) (xs : List INode) (hE : isE xs = true) (hk : 5000 < k) : impl_tableOf.f k xs = some (tableL xs) := by
  have h := table_i0 xs hE 64 k 0 [] (by omega) (by omega) (by simp)
  unfold impl_tableOf.f impl_table_impl_tableOf_c1.f
  rw [show ((0 : Nat) : Int) = 0 from rfl, List.nil_append] at h
  rw [h]
  rfl
theorem tableL_congr (xs ys : List INode) (h : ∀ x y : Int, evalE xs x y = evalE ys x y) : tableL xs = tableL ys := by
  unfold tableL tabFrom rowL
  simp only [h]
end Go.Proofs.Ytlcplhcccgbmnaa.PureOps
