/- The table of an expression and whether it depends on an input: what the program answers. Plain. -/
import Derived.Test.YtlcplhcccgbmnaaPPureIsExpr0
import Derived.Test.YtlcplhcccgbmnaaPPureValues
import Derived.Test.YtlcplhcccgbmnaaPPureBits
import Derived.Test.YtlcplhcccgbmnaaASpecAskedBits
namespace Go.Proofs.Ytlcplhcccgbmnaa.PureOps
open Go.RowKit Go.Proofs.Ytlcplhcccgbmnaa.A Go.Proofs.YtlcplhcccgbmnaaW.PrintWords Go.Proofs.YtlcplhcccgbmnaaW.PrintLast Go.Proofs.YtlcplhcccgbmnaaW.PrintMore
set_option linter.unusedVariables false
set_option linter.unusedSimpArgs false
/-- The value of an expression. -/
def evalE (xs : List INode) (x y : Int) : Int := rd (vals xs x y) ((xs.length - 1 : Nat) : Int)
theorem eval_i (k : Nat) (xs : List INode) (hE : isE xs = true) {x y : Int} (hx : word x = true) (hy : word y = true) (hk : 100 < k) :
    impl_eval.f k xs x y = some (evalE xs x y) := by
  obtain ⟨h1, h2, h3, h4⟩ := values_f k xs hE hx hy hk
  obtain ⟨q1, q2, _⟩ := isE_true hE
  have hw : wrap64 ((xs.length : Int) - 1) = ((xs.length - 1 : Nat) : Int) := by rw [wrap64_small (by omega) (by omega)]; omega
  unfold impl_eval.f
  simp only [h2, Option.bind_some, hw]
  rw [if_pos (by omega), if_pos (by omega)]
  rfl
theorem word_nat {j : Nat} (h : j < 64) : word (j : Int) = true := word_iff.2 ⟨by omega, by omega⟩
theorem evalE_word (xs : List INode) (hE : isE xs = true) {x y : Int} (hx : word x = true) (hy : word y = true) : 0 ≤ evalE xs x y ∧ evalE xs x y ≤ 63 :=
  rd_word (values_f 101 xs hE hx hy (by omega)).2.2.2 _
/-- A row of the table, from a place on. -/
def rowL (xs : List INode) (x j : Nat) : List Int := ((List.range 64).drop j).map fun (y : Nat) => evalE xs (x : Int) (y : Int)
/-- The rows of the table, from a place on. -/
def tabFrom (xs : List INode) (i : Nat) : List Int := ((List.range 64).drop i).flatMap fun (x : Nat) => rowL xs x 0
def tableL (xs : List INode) : List Int := tabFrom xs 0
theorem range64_end : (List.range 64).drop 64 = [] := by simp
theorem range64_step {j : Nat} (h : j < 64) : (List.range 64).drop j = j :: (List.range 64).drop (j + 1) := by
  rw [List.drop_eq_getElem_cons (by simpa using h), List.getElem_range]
theorem rowL_end (xs : List INode) (x : Nat) : rowL xs x 64 = [] := by unfold rowL; rw [range64_end]; rfl
theorem rowL_step (xs : List INode) (x : Nat) {j : Nat} (h : j < 64) : rowL xs x j = evalE xs (x : Int) (j : Int) :: rowL xs x (j + 1) := by
  unfold rowL; rw [range64_step h, List.map_cons]
theorem rowL_length (xs : List INode) (x : Nat) : (rowL xs x 0).length = 64 := by simp [rowL]
theorem tabFrom_end (xs : List INode) : tabFrom xs 64 = [] := by unfold tabFrom; rw [range64_end]; rfl
theorem tabFrom_step (xs : List INode) {i : Nat} (h : i < 64) : tabFrom xs i = rowL xs i 0 ++ tabFrom xs (i + 1) := by
  unfold tabFrom; rw [range64_step h, List.flatMap_cons]
theorem tabFrom_length (xs : List INode) (d : Nat) : ∀ i, i + d = 64 → (tabFrom xs i).length = 64 * d := by
  induction d with
  | zero => intro i h; obtain rfl : i = 64 := by omega
            rw [tabFrom_end]; rfl
  | succ d ih => intro i h; rw [tabFrom_step xs (by omega), List.length_append, rowL_length, ih (i + 1) (by omega)]; omega
theorem tableL_length (xs : List INode) : (tableL xs).length = 4096 := tabFrom_length xs 64 0 (by omega)
theorem tableL_words (xs : List INode) (hE : isE xs = true) : words (tableL xs) := by
  intro v hv
  unfold tableL tabFrom at hv
  obtain ⟨x, hx, hv⟩ := List.mem_flatMap.1 hv
  unfold rowL at hv
  obtain ⟨y, hy, rfl⟩ := List.mem_map.1 hv
  rw [List.drop_zero, List.mem_range] at hx hy
  exact evalE_word xs hE (word_nat hx) (word_nat hy)
theorem row_i (xs : List INode) (hE : isE xs = true) (x : Nat) (hx : x < 64) (e : Nat) : ∀ (k j : Nat) (u : List Int), j + e = 64 → e + 110 < k → u.length + e ≤ 5000 →
    ∃ k', k ≤ k' + e + 1 ∧ impl_table_impl_tableOf_c1.l1 k xs u (x : Int) (x : Int) (j : Int) = impl_table_impl_tableOf_c1.l0 k' xs (u ++ rowL xs x j) (wrap64 ((x : Int) + 1)) := by
  induction e with
  | zero =>
    intro k j u h hk hu
    obtain ⟨k, rfl⟩ : ∃ m, k = m + 1 := ⟨k - 1, by omega⟩
    refine ⟨k, by omega, ?_⟩
    obtain rfl : j = 64 := by omega
    simp only [impl_table_impl_tableOf_c1.l1]
    rw [if_neg (by omega), rowL_end, List.append_nil]
  | succ e ih =>
    intro k j u h hk hu
    obtain ⟨k, rfl⟩ : ∃ m, k = m + 1 := ⟨k - 1, by omega⟩
    have hj : j < 64 := by omega
    obtain ⟨k', hk', e'⟩ := ih k (j + 1) (u ++ [evalE xs (x : Int) (j : Int)]) (by omega) (by omega) (by simp; omega)
    refine ⟨k', by omega, ?_⟩
    simp only [impl_table_impl_tableOf_c1.l1, impl_tableOf_c1_v.f]
    rw [if_pos (by omega), (eval_i k xs hE (word_nat hx) (word_nat hj) (by omega)), Option.bind_some, Option.bind_some, if_pos (by omega), wrapS hj (by omega), e', rowL_step xs x hj, List.append_assoc]
    rfl
theorem table_i (xs : List INode) (hE : isE xs = true) (d : Nat) : ∀ (k i : Nat) (u : List Int), i + d = 64 → 70 * d + 200 < k → u.length + 64 * d ≤ 4500 →
    impl_table_impl_tableOf_c1.l0 k xs u (i : Int) = some (u ++ tabFrom xs i) := by
  induction d with
  | zero =>
    intro k i u h hk hu
    obtain ⟨k, rfl⟩ : ∃ m, k = m + 1 := ⟨k - 1, by omega⟩
    obtain rfl : i = 64 := by omega
    simp only [impl_table_impl_tableOf_c1.l0]
    rw [if_neg (by omega), tabFrom_end, List.append_nil]
  | succ d ih =>
    intro k i u h hk hu
    obtain ⟨k, rfl⟩ : ∃ m, k = m + 1 := ⟨k - 1, by omega⟩
    have hi : i < 64 := by omega
    obtain ⟨k2, hk2, e2⟩ := row_i xs hE i hi 64 k 0 u (by omega) (by omega) (by omega)
    have hl : (u ++ rowL xs i 0).length + 64 * d ≤ 4500 := by rw [List.length_append, rowL_length]; omega
    simp only [impl_table_impl_tableOf_c1.l0]
    rw [if_pos (by omega), show (0 : Int) = ((0 : Nat) : Int) from rfl, e2, wrapS hi (by omega), ih k2 (i + 1) _ (by omega) (by omega) hl, tabFrom_step xs hi, List.append_assoc]
theorem tableOf_i (k : Nat) (xs : List INode) (hE : isE xs = true) (hk : 5000 < k) : impl_tableOf.f k xs = some (tableL xs) := by
  have h := table_i xs hE 64 k 0 [] (by omega) (by omega) (by simp)
  unfold impl_tableOf.f impl_table_impl_tableOf_c1.f
  rw [show ((0 : Nat) : Int) = 0 from rfl, List.nil_append] at h
  rw [h]
  rfl
theorem tab_get (xs : List INode) (y : Nat) (hy : y < 64) (j : Nat) : ∀ i, i + j < 64 → rd (tabFrom xs i) ((64 * j + y : Nat) : Int) = evalE xs ((i + j : Nat) : Int) (y : Int) := by
  induction j with
  | zero =>
    intro i hi
    rw [tabFrom_step xs (by omega)]
    have hl := rowL_length xs i
    rw [rd_append (by omega) (by rw [hl]; omega)]
    unfold rd rowL
    simp [List.getD_eq_getElem?_getD, hy]
  | succ j ih =>
    intro i hi
    rw [tabFrom_step xs (by omega)]
    have hl := rowL_length xs i
    have e := ih (i + 1) (by omega)
    rw [show i + 1 + j = i + (j + 1) by omega] at e
    rw [← e]
    unfold rd
    rw [List.getD_eq_getElem?_getD, List.getD_eq_getElem?_getD, List.getElem?_append_right (by rw [hl]; omega)]
    congr 2
    rw [hl]
    omega
theorem tableL_at (xs : List INode) {x y : Nat} (hx : x < 64) (hy : y < 64) : rd (tableL xs) ((64 * x + y : Nat) : Int) = evalE xs (x : Int) (y : Int) := by
  have := tab_get xs y hy x 0 (by omega)
  rwa [Nat.zero_add] at this
/-- Where the table is read for another value of an input. -/
def posW (a : Int) (i w : Nat) : Nat := if a = 1 then 64 * (i / 64) + w else 64 * w + i % 64
theorem posW_lt {a : Int} {i w : Nat} (hi : i < 4096) (hw : w < 64) : posW a i w < 4096 := by
  unfold posW
  split <;> omega
theorem wit_row (a : Int) (T : List Int) (hT : T.length = 4096) (i : Nat) (hi : i < 4096) (v : Int) (e : Nat) : ∀ (k w : Nat), w + e = 64 → e < k →
    (∃ r, impl_DependWitness.l1 k a T v ((i / 64 : Nat) : Int) ((i % 64 : Nat) : Int) T (T.length : Int) (i : Int) (w : Int) = some (r, true) ∧ ∃ w', w' < 64 ∧ rd T ((posW a i w' : Nat) : Int) ≠ v) ∨
      ∃ k', k ≤ k' + e + 1 ∧ impl_DependWitness.l1 k a T v ((i / 64 : Nat) : Int) ((i % 64 : Nat) : Int) T (T.length : Int) (i : Int) (w : Int) = impl_DependWitness.l0 k' a T T (T.length : Int) (wrap64 ((i : Int) + 1)) ∧ ∀ w', w ≤ w' → w' < 64 → rd T ((posW a i w' : Nat) : Int) = v := by
  induction e with
  | zero =>
    intro k w h hk
    obtain ⟨k, rfl⟩ : ∃ m, k = m + 1 := ⟨k - 1, by omega⟩
    refine .inr ⟨k, by omega, ?_, fun w' h1 h2 => by omega⟩
    simp only [impl_DependWitness.l1]
    rw [if_neg (by omega)]
  | succ e ih =>
    intro k w h hk
    obtain ⟨k, rfl⟩ : ∃ m, k = m + 1 := ⟨k - 1, by omega⟩
    have hw : w < 64 := by omega
    have IH := ih k (w + 1) (by omega) (by omega)
    have hs : wrap64 ((w : Int) + 1) = ((w + 1 : Nat) : Int) := wrapS hw (by omega)
    have e3 : wrap64 (wrap64 (64 * ((i / 64 : Nat) : Int)) + (w : Int)) = ((64 * (i / 64) + w : Nat) : Int) := by rw [wrap64_small (n := 64 * ((i / 64 : Nat) : Int)) (by omega) (by omega), wrap64_small (by omega) (by omega)]; omega
    have e4 : wrap64 (wrap64 (64 * (w : Int)) + ((i % 64 : Nat) : Int)) = ((64 * w + i % 64 : Nat) : Int) := by rw [wrap64_small (n := 64 * (w : Int)) (by omega) (by omega), wrap64_small (by omega) (by omega)]; omega
    have hp : ∀ x : Int, ((posW a i w : Nat) : Int) = x → ∀ (q1 : 0 ≤ x) (q2 : x < (T.length : Int)), (∃ r, (if rd T x = v then impl_DependWitness.l1 k a T v ((i / 64 : Nat) : Int) ((i % 64 : Nat) : Int) T (T.length : Int) (i : Int) ((w + 1 : Nat) : Int) else some ([((i / 64 : Nat) : Int), ((i % 64 : Nat) : Int), (w : Int)], true)) = some (r, true) ∧ ∃ w', w' < 64 ∧ rd T ((posW a i w' : Nat) : Int) ≠ v) ∨
        ∃ k', k + 1 ≤ k' + (e + 1) + 1 ∧ (if rd T x = v then impl_DependWitness.l1 k a T v ((i / 64 : Nat) : Int) ((i % 64 : Nat) : Int) T (T.length : Int) (i : Int) ((w + 1 : Nat) : Int) else some ([((i / 64 : Nat) : Int), ((i % 64 : Nat) : Int), (w : Int)], true)) = impl_DependWitness.l0 k' a T T (T.length : Int) (wrap64 ((i : Int) + 1)) ∧ ∀ w', w ≤ w' → w' < 64 → rd T ((posW a i w' : Nat) : Int) = v := by
      intro x hx q1 q2
      by_cases hv : rd T x = v
      · rw [if_pos hv]
        rcases IH with h' | ⟨k', h1, h2, h3⟩
        · exact .inl h'
        · refine .inr ⟨k', by omega, h2, fun w' g1 g2 => ?_⟩
          by_cases hww : w' = w
          · subst hww; rw [hx]; exact hv
          · exact h3 w' (by omega) g2
      · rw [if_neg hv]
        exact .inl ⟨_, rfl, w, hw, by rw [hx]; exact hv⟩
    simp only [impl_DependWitness.l1]
    rw [if_pos (by omega), e3, e4, hs]
    by_cases ha : a = 1
    · rw [if_pos ha, if_pos (by omega), if_pos (by omega)]
      exact hp _ (by unfold posW; rw [if_pos ha]) (by omega) (by omega)
    · rw [if_neg ha, if_pos (by omega), if_pos (by omega)]
      exact hp _ (by unfold posW; rw [if_neg ha]) (by omega) (by omega)
theorem wit_main (a : Int) (T : List Int) (hT : T.length = 4096) (d : Nat) : ∀ (k i : Nat), i + d = 4096 → 70 * d + 5 < k →
    ∃ r b, impl_DependWitness.l0 k a T T (T.length : Int) (i : Int) = some (r, b) ∧ (b = true ↔ ∃ i' w', i ≤ i' ∧ i' < 4096 ∧ w' < 64 ∧ rd T ((posW a i' w' : Nat) : Int) ≠ rd T (i' : Int)) := by
  induction d with
  | zero =>
    intro k i h hk
    obtain ⟨k, rfl⟩ : ∃ m, k = m + 1 := ⟨k - 1, by omega⟩
    refine ⟨[], false, ?_, ?_⟩
    · simp only [impl_DependWitness.l0]
      rw [if_neg (by omega)]
    · constructor
      · intro h; cases h
      · rintro ⟨i', w', h1, h2, _⟩; omega
  | succ d ih =>
    intro k i h hk
    obtain ⟨k, rfl⟩ : ∃ m, k = m + 1 := ⟨k - 1, by omega⟩
    have hi : i < 4096 := by omega
    have a1 : wrap64 (Int.tdiv (i : Int) 64) = ((i / 64 : Nat) : Int) := by rw [Int.tdiv_eq_ediv_of_nonneg (by omega), wrap64_small (by omega) (by omega)]; omega
    have a2 : Int.tmod (i : Int) 64 = ((i % 64 : Nat) : Int) := by rw [Int.tmod_eq_emod_of_nonneg (by omega)]; omega
    have e : impl_DependWitness.l0 (k + 1) a T T (T.length : Int) (i : Int) = impl_DependWitness.l1 k a T (rd T (i : Int)) ((i / 64 : Nat) : Int) ((i % 64 : Nat) : Int) T (T.length : Int) (i : Int) ((0 : Nat) : Int) := by
      simp only [impl_DependWitness.l0]
      rw [if_pos (by omega), if_pos (by omega), if_pos (by omega)]
      unfold impl_inputsAt.f
      rw [Option.bind_some, a1, a2]
      rfl
    rw [e]
    rcases wit_row a T hT i hi (rd T (i : Int)) 64 k 0 (by omega) (by omega) with ⟨r, h1, w', h2, h3⟩ | ⟨k', h1, h2, h3⟩
    · exact ⟨r, true, h1, fun _ => ⟨i, w', Nat.le_refl _, hi, h2, h3⟩, fun _ => rfl⟩
    · rw [h2, wrapS hi (by omega)]
      obtain ⟨r, b, g1, g2⟩ := ih k' (i + 1) (by omega) (by omega)
      refine ⟨r, b, g1, g2.trans ⟨?_, ?_⟩⟩
      · rintro ⟨i', w', q1, q2, q3, q4⟩; exact ⟨i', w', by omega, q2, q3, q4⟩
      · rintro ⟨i', w', q1, q2, q3, q4⟩
        by_cases hq : i' = i
        · subst hq; exact absurd (h3 w' (by omega) q3) q4
        · exact ⟨i', w', by omega, q2, q3, q4⟩
theorem posW_eval (xs : List INode) (a : Int) {i w : Nat} (hi : i < 4096) (hw : w < 64) : rd (tableL xs) ((posW a i w : Nat) : Int) = if a = 1 then evalE xs ((i / 64 : Nat) : Int) (w : Int) else evalE xs (w : Int) ((i % 64 : Nat) : Int) := by
  unfold posW
  split
  · exact tableL_at xs (by omega) hw
  · exact tableL_at xs hw (by omega)
/-- The program tells whether an expression depends on an input. -/
theorem dependsOn_i (k : Nat) (xs : List INode) (hE : isE xs = true) (a : Int) (ha : 0 ≤ a ∧ a ≤ 1) (hk : 4 * xs.length + 300100 < k) : ∃ b, impl_DependsOn.f k xs a = some (b, true) ∧
    (b = true ↔ ∃ x y w : Nat, x < 64 ∧ y < 64 ∧ w < 64 ∧ (if a = 1 then evalE xs (x : Int) (w : Int) else evalE xs (w : Int) (y : Int)) ≠ evalE xs (x : Int) (y : Int)) := by
  obtain ⟨n1, n2, _⟩ := isE_true hE
  obtain ⟨k, rfl⟩ : ∃ m, k = m + 1 := ⟨k - 1, by omega⟩
  obtain ⟨r, b, h1, h2⟩ := wit_main a (tableL xs) (tableL_length xs) 4096 k 0 (by omega) (by omega)
  refine ⟨b, ?_, h2.trans ⟨?_, ?_⟩⟩
  · unfold impl_DependsOn.f impl_DependWitness.f
    rw [isExpr_f (k + 1) xs (by omega) (by omega), within_f]
    simp only [Option.bind_some]
    simp only [hE, if_true, show (decide (0 ≤ a) && decide (a ≤ 1)) = true by simp; omega, impl_DependWitness.j0, Bool.not_true, Bool.false_eq_true, if_false]
    rw [tableOf_i k xs hE (by omega), Option.bind_some, show (0 : Int) = ((0 : Nat) : Int) from rfl, h1, Option.bind_some]
  · rintro ⟨i, w, _, q2, q3, q4⟩
    rw [posW_eval xs a q2 q3] at q4
    have e := tableL_at xs (x := i / 64) (y := i % 64) (by omega) (by omega)
    rw [show 64 * (i / 64) + i % 64 = i by omega] at e
    rw [e] at q4
    exact ⟨i / 64, i % 64, w, by omega, by omega, q3, q4⟩
  · rintro ⟨x, y, w, hx, hy, hw, hne⟩
    refine ⟨64 * x + y, w, by omega, by omega, hw, ?_⟩
    rw [posW_eval xs a (by omega) hw, tableL_at xs hx hy, show (64 * x + y) / 64 = x by omega, show (64 * x + y) % 64 = y by omega]
    exact hne
end Go.Proofs.Ytlcplhcccgbmnaa.PureOps
