/- ConstantOf of the program and of the reference agree for all arguments. -/
import Derived.Test.YtaddadknmipfeaaPureRange
import Derived.Test.YtaddadknmipfeaaFSpecL1All
import Derived.Test.YtaddadknmipfeaaFSpecConstantOf
namespace Go.Proofs.Ytaddadknmipfeaa.PureOps
open Go.RowKit Go.Proofs.Ytaddadknmipfeaa.F Go.Proofs.YtaddadknmipfeaaW.PrintWords Go.Proofs.YtaddadknmipfeaaW.PrintLast Go.Proofs.YtaddadknmipfeaaW.PrintMore Go.Proofs.Ytaddadknmipfeaa.MKinds
set_option linter.unusedVariables false
set_option linter.unusedSimpArgs false
theorem l1All_f (k : Nat) (xs : List Int) (l h : Int) (hn : xs.length ≤ 1048576) (hk : xs.length < k) : spec_l1All.f k xs l h = some (xs.all fun x => decide (l ≤ x) && decide (x ≤ h)) := by
  unfold spec_l1All.f
  obtain ⟨r, hr, hq⟩ := some_loop (fun k (_ : Unit) i => spec_l1All.l0 k l h xs (xs.length : Int) i) xs.length (by omega) 0 (fun i _ => ∀ j (hj : j < xs.length), j < i → (decide (l ≤ xs[j]) && decide (xs[j] ≤ h)) = true) (fun r => r = xs.all fun x => decide (l ≤ x) && decide (x ≤ h))
    (fun k i s _ hi hI => by
      cases hc : (decide (l ≤ xs[i]) && decide (xs[i] ≤ h)) with
      | false =>
        refine .inl ⟨false, ?_, ?_⟩
        · simp only [spec_l1All.l0]
          rw [if_pos (by omega), if_pos (by omega), if_pos (by omega), rd_get xs i hi, l1In_f, hc, Option.bind_some, if_neg (by decide)]
        · symm; rw [List.all_eq_false]; exact ⟨xs[i], List.getElem_mem hi, by simp [hc]⟩
      | true =>
        refine .inr ⟨(), ?_, fun j hj hji => ?_⟩
        · simp only [spec_l1All.l0]
          rw [if_pos (by omega), if_pos (by omega), if_pos (by omega), rd_get xs i hi, l1In_f, hc, Option.bind_some, if_pos rfl]
        · by_cases e : j = i
          · subst e; exact hc
          · exact hI j hj (by omega))
    (fun k s _ hI => ⟨true, by simp only [spec_l1All.l0]; rw [if_neg (by omega)], by
      symm
      rw [List.all_eq_true]
      intro x hx
      obtain ⟨j, hj, rfl⟩ := List.mem_iff_getElem.1 hx
      exact hI j hj hj⟩) xs.length k 0 () (by omega) (by omega) (fun j _ h => by omega)
  rw [← hq]; exact hr
theorem fold_mn (L : List Int) : ∀ m : Int, L.foldl mn m ≤ m ∧ ∀ x ∈ L, L.foldl mn m ≤ x := by
  induction L with
  | nil => intro m; exact ⟨Int.le_refl _, fun x hx => by cases hx⟩
  | cons y L ih =>
    intro m
    have hm : mn m y ≤ m ∧ mn m y ≤ y := by unfold mn; split <;> omega
    obtain ⟨h1, h2⟩ := ih (mn m y)
    rw [List.foldl_cons]
    refine ⟨by omega, fun x hx => ?_⟩
    rcases List.mem_cons.1 hx with rfl | hx
    · omega
    · exact h2 x hx
theorem fold_mx (L : List Int) : ∀ m : Int, m ≤ L.foldl mx m ∧ ∀ x ∈ L, x ≤ L.foldl mx m := by
  induction L with
  | nil => intro m; exact ⟨Int.le_refl _, fun x hx => by cases hx⟩
  | cons y L ih =>
    intro m
    have hm : m ≤ mx m y ∧ y ≤ mx m y := by unfold mx; split <;> omega
    obtain ⟨h1, h2⟩ := ih (mx m y)
    rw [List.foldl_cons]
    refine ⟨by omega, fun x hx => ?_⟩
    rcases List.mem_cons.1 hx with rfl | hx
    · omega
    · exact h2 x hx
theorem fold_const (L : List Int) (c : Int) (h : ∀ x ∈ L, x = c) : L.foldl mn c = c ∧ L.foldl mx c = c := by
  induction L with
  | nil => exact ⟨rfl, rfl⟩
  | cons y L ih =>
    have hy : y = c := h y (List.mem_cons_self ..)
    have e1 : mn c y = c := by rw [hy]; unfold mn; split <;> rfl
    have e2 : mx c y = c := by rw [hy]; unfold mx; split <;> rfl
    rw [List.foldl_cons, List.foldl_cons, e1, e2]
    exact ih (fun x hx => h x (List.mem_cons_of_mem _ hx))
/-- All values are the first. -/
def flat (T : List Int) : Bool := T.all fun x => decide (rd T 0 ≤ x) && decide (x ≤ rd T 0)
theorem flat_true {T : List Int} (hT : 0 < T.length) (h : flat T = true) : lowL T = rd T 0 ∧ highL T = rd T 0 := by
  unfold flat at h
  rw [List.all_eq_true] at h
  exact fold_const (T.drop 1) (rd T 0) (fun x hx => by
    have := h x (List.mem_of_mem_drop hx)
    simp only [Bool.and_eq_true, decide_eq_true_eq] at this
    omega)
theorem flat_false {T : List Int} (hT : 0 < T.length) (h : ¬ flat T = true) : ¬ lowL T = highL T := by
  intro e
  apply h
  unfold flat
  rw [List.all_eq_true]
  intro x hx
  have e3 : rd T 0 = T[0] := rd_get T 0 hT
  rw [show T = T[0] :: T.drop 1 from by rw [← List.drop_eq_getElem_cons hT, List.drop_zero]] at hx
  obtain ⟨a1, a2⟩ := fold_mn (T.drop 1) (rd T 0)
  obtain ⟨b1, b2⟩ := fold_mx (T.drop 1) (rd T 0)
  have e' : (T.drop 1).foldl mn (rd T 0) = (T.drop 1).foldl mx (rd T 0) := e
  simp only [Bool.and_eq_true, decide_eq_true_eq]
  rcases List.mem_cons.1 hx with hx | hx
  · rw [← e3] at hx; omega
  · have := a2 x hx
    have := b2 x hx
    omega
theorem constantOf_same (k : Nat) (xs : List INode) (hk : 4 * xs.length + 5960 < k) (hn : xs.length ≤ 1048576) :
    ∃ r, spec_ConstantOf.f k xs = some r ∧ impl_ConstantOf.f k xs = some r := by
  unfold spec_ConstantOf.f impl_ConstantOf.f
  rw [good_f k xs (by omega) hn, range_f k xs (by omega) hn]
  simp only [Option.bind_some]
  by_cases hE : isE xs = true
  · have hT := tableL_length xs
    simp only [if_pos hE, (table_f k xs hE (by omega)).1, Option.bind_some, if_true]
    generalize tableL xs = T at hT
    rw [if_pos (by omega), l1All_f k T (rd T 0) (rd T 0) (by omega) (by omega), Option.bind_some]
    by_cases hf : flat T = true
    · obtain ⟨e1, e2⟩ := flat_true (by omega) hf
      refine ⟨(rd T 0, true), ?_, ?_⟩
      · exact if_pos hf
      · rw [e1, e2, if_pos rfl]
    · refine ⟨(0, false), ?_, ?_⟩
      · exact if_neg hf
      · rw [if_neg (flat_false (by omega) hf)]
  · simp only [if_neg hE]
    exact ⟨_, rfl, rfl⟩
theorem constantOf_true (xs : List LNode) (hn : xs.length ≤ 9223372036854775807) (hs : ∀ x ∈ xs, x.f0.size ≤ 9223372036854775807) : laws_FnExactConstantOf.f (4 * xs.length + 6000) xs = some true := by
  unfold laws_FnExactConstantOf.f
  obtain ⟨r, hr, _, hl⟩ := szNodeS_f (4 * xs.length + 6000) xs 1048576 (by omega) (by omega) hn hs (by omega)
  rw [hr, Option.bind_some]
  by_cases h : r < 0
  · rw [if_pos h]
  · rw [if_neg h]
    have hn2 : xs.length ≤ 1048576 := by have := hl (by omega); omega
    have hn3 : (xs.map convN).length ≤ 1048576 := by simpa using hn2
    have j0 : laws_FnExactConstantOf.j0 (4 * xs.length + 6000) xs (xs.map convN) false = some true := by
      rw [show 4 * xs.length + 6000 = (4 * xs.length + 5999) + 1 by omega]
      simp only [laws_FnExactConstantOf.j0]
      rw [if_neg (by decide), toNodeS_f (4 * xs.length + 5999) xs hn2 (by omega), Option.bind_some, eqNodeS_f (4 * xs.length + 5999) (xs.map convN) hn3 (by rw [List.length_map]; omega), Option.bind_some, if_pos rfl]
    rw [toNodeS_f (4 * xs.length + 6000) xs hn2 (by omega)]
    obtain ⟨q, h1, h2⟩ := constantOf_same (4 * xs.length + 6000) (xs.map convN) (by rw [List.length_map]; omega) hn3
    simp only [Option.bind_some, h1, h2]
    simpa using j0
theorem constantOf_walk (A : Option Addr) (c : Nat) (xs : List LNode) (hl0 : xs.length ≤ c) (W : World) (hr0 : Kd.C k87 W A xs.length xs) (hm0 : xs.length ≤ maxLen) (ho0 : ∀ x ∈ xs, nodeSOk x) :
    Calls Try.prog 21 #[.slice A xs.length c] W fun e w' => e = .returned (.bool true) ∧ Below W.heap.size W w' :=
  laws_FnExactConstantOf.calls (4 * xs.length + 6000) A c xs true W hr0 hl0 (constantOf_true xs (len_ok hm0) (nodes_ok ho0)) rfl
end Go.Proofs.Ytaddadknmipfeaa.PureOps
