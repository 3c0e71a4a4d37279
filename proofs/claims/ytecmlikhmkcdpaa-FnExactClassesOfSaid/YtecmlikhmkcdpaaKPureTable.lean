/- The table of an expression, its values at all inputs in order: one list of both sides. Plain. -/
import Derived.Test.YtecmlikhmkcdpaaKPureEvalE
import Derived.Test.YtecmlikhmkcdpaaKPureBits
import Derived.Test.YtecmlikhmkcdpaaILawsEqNode
namespace Go.Proofs.Ytecmlikhmkcdpaa.PureOps
open Go.RowKit Go.Proofs.Ytecmlikhmkcdpaa.I Go.Proofs.YtecmlikhmkcdpaaW.PrintWords Go.Proofs.YtecmlikhmkcdpaaW.PrintLast Go.Proofs.YtecmlikhmkcdpaaW.PrintMore
set_option linter.unusedVariables false
theorem word_nat {j : Nat} (h : j < 64) : word (j : Int) = true := word_iff.2 ⟨by omega, by omega⟩
theorem evalE_word (xs : List INode) (hE : isE xs = true) {x y : Int} (hx : word x = true) (hy : word y = true) : 0 ≤ evalE xs x y ∧ evalE xs x y ≤ 63 :=
  rd_word (values_f 101 xs hE hx hy (by omega)).2.2.2 _
/-- A row of the table, from a place on. -/
def rowL (xs : List INode) (x j : Nat) : List Int := ((List.range 64).drop j).map fun (y : Nat) => evalE xs (x : Int) (y : Int)
/-- The rows of the table, from a place on. -/
def tabFrom (xs : List INode) (i : Nat) : List Int := ((List.range 64).drop i).flatMap fun (x : Nat) => rowL xs x 0
def tableL (xs : List INode) : List Int := tabFrom xs 0
theorem range64_end : (List.range 64).drop 64 = [] := by simp
theorem range64_step {j : Nat} (h : j < 64) : (List.range 64).drop j = j :: (List.range 64).drop (j + 1) := by
  rw [List.drop_eq_getElem_cons (by simpa using h), List.getElem_range]
theorem rowL_end (xs : List INode) (x : Nat) : rowL xs x 64 = [] := by unfold rowL; rw [range64_end]; rfl
theorem rowL_step (xs : List INode) (x : Nat) {j : Nat} (h : j < 64) : rowL xs x j = evalE xs (x : Int) (j : Int) :: rowL xs x (j + 1) := by
  unfold rowL; rw [range64_step h, List.map_cons]
theorem rowL_length (xs : List INode) (x : Nat) : (rowL xs x 0).length = 64 := by simp [rowL]
theorem tabFrom_end (xs : List INode) : tabFrom xs 64 = [] := by unfold tabFrom; rw [range64_end]; rfl
theorem tabFrom_step (xs : List INode) {i : Nat} (h : i < 64) : tabFrom xs i = rowL xs i 0 ++ tabFrom xs (i + 1) := by
  unfold tabFrom; rw [range64_step h, List.flatMap_cons]
theorem tabFrom_length (xs : List INode) (d : Nat) : ∀ i, i + d = 64 → (tabFrom xs i).length = 64 * d := by
  induction d with
  | zero => intro i h; obtain rfl : i = 64 := by omega
            rw [tabFrom_end]; rfl
  | succ d ih => intro i h; rw [tabFrom_step xs (by omega), List.length_append, rowL_length, ih (i + 1) (by omega)]; omega
theorem tableL_length (xs : List INode) : (tableL xs).length = 4096 := tabFrom_length xs 64 0 (by omega)
theorem tableL_words (xs : List INode) (hE : isE xs = true) : words (tableL xs) := by
  intro v hv
  unfold tableL tabFrom at hv
  obtain ⟨x, hx, hv⟩ := List.mem_flatMap.1 hv
  unfold rowL at hv
  obtain ⟨y, hy, rfl⟩ := List.mem_map.1 hv
  rw [List.drop_zero, List.mem_range] at hx hy
  exact evalE_word xs hE (word_nat hx) (word_nat hy)
theorem row_s (xs : List INode) (hE : isE xs = true) (x : Nat) (hx : x < 64) (e : Nat) : ∀ (k j : Nat) (u : List Int), j + e = 64 → e + 110 < k → u.length + e ≤ 5000 →
    ∃ k', k ≤ k' + e + 1 ∧ spec_exTable.l1 k xs u (x : Int) (j : Int) = spec_exTable.l0 k' xs (u ++ rowL xs x j) (wrap64 ((x : Int) + 1)) := by
  induction e with
  | zero =>
    intro k j u h hk hu
    obtain ⟨k, rfl⟩ : ∃ m, k = m + 1 := ⟨k - 1, by omega⟩
    refine ⟨k, by omega, ?_⟩
    obtain rfl : j = 64 := by omega
    simp only [spec_exTable.l1]
    rw [if_neg (by omega), rowL_end, List.append_nil]
  | succ e ih =>
    intro k j u h hk hu
    obtain ⟨k, rfl⟩ : ∃ m, k = m + 1 := ⟨k - 1, by omega⟩
    have hj : j < 64 := by omega
    obtain ⟨k', hk', e'⟩ := ih k (j + 1) (u ++ [evalE xs (x : Int) (j : Int)]) (by omega) (by omega) (by simp; omega)
    refine ⟨k', by omega, ?_⟩
    simp only [spec_exTable.l1]
    rw [if_pos (by omega), (eval_f k xs hE (word_nat hx) (word_nat hj) (by omega)).1, Option.bind_some, if_pos (by omega), wrapS hj (by omega), e', rowL_step xs x hj, List.append_assoc]
    rfl
theorem row_i (xs : List INode) (hE : isE xs = true) (x : Nat) (hx : x < 64) (e : Nat) : ∀ (k j : Nat) (u : List Int), j + e = 64 → e + 110 < k → u.length + e ≤ 5000 →
    ∃ k', k ≤ k' + e + 1 ∧ impl_table_impl_tableOf_c1.l1 k xs u (x : Int) (x : Int) (j : Int) = impl_table_impl_tableOf_c1.l0 k' xs (u ++ rowL xs x j) (wrap64 ((x : Int) + 1)) := by
  induction e with
  | zero =>
    intro k j u h hk hu
    obtain ⟨k, rfl⟩ : ∃ m, k = m + 1 := ⟨k - 1, by omega⟩
    refine ⟨k, by omega, ?_⟩
    obtain rfl : j = 64 := by omega
    simp only [impl_table_impl_tableOf_c1.l1]
    rw [if_neg (by omega), rowL_end, List.append_nil]
  | succ e ih =>
    intro k j u h hk hu
    obtain ⟨k, rfl⟩ : ∃ m, k = m + 1 := ⟨k - 1, by omega⟩
    have hj : j < 64 := by omega
    obtain ⟨k', hk', e'⟩ := ih k (j + 1) (u ++ [evalE xs (x : Int) (j : Int)]) (by omega) (by omega) (by simp; omega)
    refine ⟨k', by omega, ?_⟩
    simp only [impl_table_impl_tableOf_c1.l1, impl_tableOf_c1_v.f]
    rw [if_pos (by omega), (eval_f k xs hE (word_nat hx) (word_nat hj) (by omega)).2, Option.bind_some, Option.bind_some, if_pos (by omega), wrapS hj (by omega), e', rowL_step xs x hj, List.append_assoc]
    rfl
theorem table_main (xs : List INode) (hE : isE xs = true) (d : Nat) : ∀ (k i : Nat) (u : List Int), i + d = 64 → 70 * d + 200 < k → u.length + 64 * d ≤ 4500 →
    spec_exTable.l0 k xs u (i : Int) = some (u ++ tabFrom xs i) ∧ impl_table_impl_tableOf_c1.l0 k xs u (i : Int) = some (u ++ tabFrom xs i) := by
  induction d with
  | zero =>
    intro k i u h hk hu
    obtain ⟨k, rfl⟩ : ∃ m, k = m + 1 := ⟨k - 1, by omega⟩
    obtain rfl : i = 64 := by omega
    simp only [spec_exTable.l0, impl_table_impl_tableOf_c1.l0]
    rw [if_neg (by omega), if_neg (by omega), tabFrom_end, List.append_nil]
    exact ⟨rfl, rfl⟩
  | succ d ih =>
    intro k i u h hk hu
    obtain ⟨k, rfl⟩ : ∃ m, k = m + 1 := ⟨k - 1, by omega⟩
    have hi : i < 64 := by omega
    obtain ⟨k1, hk1, e1⟩ := row_s xs hE i hi 64 k 0 u (by omega) (by omega) (by omega)
    obtain ⟨k2, hk2, e2⟩ := row_i xs hE i hi 64 k 0 u (by omega) (by omega) (by omega)
    have hl : (u ++ rowL xs i 0).length + 64 * d ≤ 4500 := by rw [List.length_append, rowL_length]; omega
    simp only [spec_exTable.l0, impl_table_impl_tableOf_c1.l0]
    rw [if_pos (by omega), if_pos (by omega), show (0 : Int) = ((0 : Nat) : Int) from rfl, e1, e2, wrapS hi (by omega), (ih k1 (i + 1) _ (by omega) (by omega) hl).1, (ih k2 (i + 1) _ (by omega) (by omega) hl).2, tabFrom_step xs hi, List.append_assoc]
    exact ⟨rfl, rfl⟩
theorem table_f (k : Nat) (xs : List INode) (hE : isE xs = true) (hk : 5000 < k) : spec_exTable.f k xs = some (tableL xs) ∧ impl_tableOf.f k xs = some (tableL xs) := by
  have h := table_main xs hE 64 k 0 [] (by omega) (by omega) (by simp)
  unfold spec_exTable.f impl_tableOf.f impl_table_impl_tableOf_c1.f
  rw [show ((0 : Nat) : Int) = 0 from rfl, List.nil_append] at h
  rw [h.1, h.2]
  exact ⟨rfl, rfl⟩
end Go.Proofs.Ytecmlikhmkcdpaa.PureOps
