/- IsTree of the program and of the reference agree for all arguments. -/
import Derived.Test.YtlcplhcccgbmnaaQPureIsExpr0
import Derived.Test.YtlcplhcccgbmnaaBLawsFnInputsPut
namespace Go.Proofs.Ytlcplhcccgbmnaa.PureOps
open Go.RowKit Go.Proofs.Ytlcplhcccgbmnaa.B Go.Proofs.YtlcplhcccgbmnaaW.PrintWords Go.Proofs.YtlcplhcccgbmnaaW.PrintLast Go.Proofs.YtlcplhcccgbmnaaW.PrintMore
set_option linter.unusedVariables false
def upTo (B : Int) (u : List Int) : Prop := ∀ x ∈ u, 0 ≤ x ∧ x ≤ B
theorem rd_upTo {B : Int} {u : List Int} (h : upTo B u) (h0 : 0 ≤ B) (p : Int) : 0 ≤ rd u p ∧ rd u p ≤ B := by
  unfold rd
  rw [List.getD_eq_getElem?_getD]
  by_cases hp : p.toNat < u.length
  · rw [List.getElem?_eq_getElem hp]
    exact h _ (List.getElem_mem hp)
  · rw [List.getElem?_eq_none (by omega)]
    exact ⟨by simp, by simpa using h0⟩
theorem inc_upTo {B : Int} {u : List Int} (h : upTo B u) (h0 : 0 ≤ B) (h1 : B ≤ 1000000) (p : Int) : upTo (B + 1) (inc u p) := by
  intro x hx
  have hr := rd_upTo h h0 p
  unfold inc at hx
  rcases List.mem_or_eq_of_mem_set hx with hx | rfl
  · have := h x hx; omega
  · rw [wrap64_small (by omega) (by omega)]; omega
theorem incs_upTo (ps : List Int) : ∀ {B : Int} {u : List Int}, upTo B u → 0 ≤ B → B + ps.length ≤ 1000000 → upTo (B + ps.length) (ps.foldl inc u) := by
  induction ps with
  | nil => intro B u h _ _; simpa using h
  | cons p ps ih =>
    intro B u h h0 h1
    rw [List.foldl_cons]
    have h2 : B + 1 + (ps.length : Int) ≤ 1000000 := by simp at h1; omega
    have := ih (inc_upTo h h0 (by omega) p) (by omega) h2
    rw [List.length_cons]
    rw [show B + ((ps.length + 1 : Nat) : Int) = B + 1 + ps.length by omega]
    exact this
theorem upTo_mono {B C : Int} {u : List Int} (h : upTo B u) (hc : B ≤ C) : upTo C u := fun x hx => by have := h x hx; omega
theorem uses_upTo (xs : List INode) (hn : xs.length ≤ 24) : upTo 48 (usesL xs) := by
  unfold usesL
  have main : ∀ (ys : List INode) (B : Int) (u : List Int), upTo B u → 0 ≤ B → B + 2 * ys.length ≤ 1000 → upTo (B + 2 * ys.length) (ys.foldl (fun u n => (partsOf n).foldl inc u) u) := by
    intro ys
    induction ys with
    | nil => intro B u h _ _; simpa using h
    | cons y ys ih =>
      intro B u h h0 h1
      rw [List.foldl_cons]
      have hl : (partsOf y).length ≤ 2 := parts_len _ _ _
      simp only [List.length_cons] at h1
      have h2 : upTo (B + 2) ((partsOf y).foldl inc u) := upTo_mono (incs_upTo (partsOf y) h h0 (by omega)) (by omega)
      have := ih (B + 2) _ h2 (by omega) (by omega)
      rw [List.length_cons, show B + 2 * ((ys.length + 1 : Nat) : Int) = B + 2 + 2 * ys.length by omega]
      exact this
  exact upTo_mono (main xs 0 (List.replicate xs.length 0) (fun x hx => by rw [List.mem_replicate] at hx; omega) (by omega) (by omega)) (by omega)
theorem l1All_f (k : Nat) (xs : List Int) (l h : Int) (hn : xs.length ≤ 1048576) (hk : xs.length < k) : spec_l1All.f k xs l h = some (xs.all fun x => decide (l ≤ x) && decide (x ≤ h)) := by
  unfold spec_l1All.f
  obtain ⟨r, hr, hq⟩ := some_loop (fun k (_ : Unit) i => spec_l1All.l0 k l h xs (xs.length : Int) i) xs.length (by omega) 0 (fun i _ => ∀ j (hj : j < xs.length), j < i → (decide (l ≤ xs[j]) && decide (xs[j] ≤ h)) = true) (fun r => r = xs.all fun x => decide (l ≤ x) && decide (x ≤ h))
    (fun k i s _ hi hI => by
      cases hc : (decide (l ≤ xs[i]) && decide (xs[i] ≤ h)) with
      | false =>
        refine .inl ⟨false, ?_, ?_⟩
        · simp only [spec_l1All.l0]
          rw [if_pos (by omega), if_pos (by omega), if_pos (by omega), rd_get xs i hi, l1In_f, hc, Option.bind_some, if_neg (by decide)]
        · symm; rw [List.all_eq_false]; exact ⟨xs[i], List.getElem_mem hi, by simp [hc]⟩
      | true =>
        refine .inr ⟨(), ?_, fun j hj hji => ?_⟩
        · simp only [spec_l1All.l0]
          rw [if_pos (by omega), if_pos (by omega), if_pos (by omega), rd_get xs i hi, l1In_f, hc, Option.bind_some, if_pos rfl]
        · by_cases e : j = i
          · subst e; exact hc
          · exact hI j hj (by omega))
    (fun k s _ hI => ⟨true, by simp only [spec_l1All.l0]; rw [if_neg (by omega)], by
      symm
      rw [List.all_eq_true]
      intro x hx
      obtain ⟨j, hj, rfl⟩ := List.mem_iff_getElem.1 hx
      exact hI j hj hj⟩) xs.length k 0 () (by omega) (by omega) (fun j _ h => by omega)
  rw [← hq]; exact hr
theorem anyOver_f (k : Nat) (xs : List Int) (hn : xs.length ≤ 1048576) (hk : xs.length < k) : slices_ContainsFunc_int_int_impl_isTree_c1.f k xs = some (xs.any fun x => decide (x > 1)) := by
  unfold slices_ContainsFunc_int_int_impl_isTree_c1.f slices_IndexFunc_int_int_impl_isTree_c1.f
  obtain ⟨r, hr, hq⟩ := some_loop (fun k (_ : Unit) i => slices_IndexFunc_int_int_impl_isTree_c1.l0 k xs (xs.length : Int) i) xs.length (by omega) 0 (fun i _ => ∀ j (hj : j < xs.length), j < i → ¬ xs[j] > 1) (fun r => decide (r ≥ 0) = xs.any fun x => decide (x > 1))
    (fun k i s _ hi hI => by
      by_cases hc : xs[i] > 1
      · refine .inl ⟨i, ?_, ?_⟩
        · simp only [slices_IndexFunc_int_int_impl_isTree_c1.l0, impl_isTree_c1.f]
          rw [if_pos (by omega), if_pos (by omega), if_pos (by omega), rd_get xs i hi, Option.bind_some, if_pos (decide_eq_true hc)]
        · rw [decide_eq_true (by omega)]; symm; rw [List.any_eq_true]; exact ⟨xs[i], List.getElem_mem hi, decide_eq_true hc⟩
      · refine .inr ⟨(), ?_, fun j hj hji => ?_⟩
        · simp only [slices_IndexFunc_int_int_impl_isTree_c1.l0, impl_isTree_c1.f]
          rw [if_pos (by omega), if_pos (by omega), if_pos (by omega), rd_get xs i hi, Option.bind_some, if_neg (by simpa using hc)]
        · by_cases e : j = i
          · subst e; exact hc
          · exact hI j hj (by omega))
    (fun k s _ hI => ⟨-1, by simp only [slices_IndexFunc_int_int_impl_isTree_c1.l0]; rw [if_neg (by omega)], by
      have : (xs.any fun x => decide (x > 1)) = false := by
        rw [List.any_eq_false]
        intro x hx
        obtain ⟨j, hj, rfl⟩ := List.mem_iff_getElem.1 hx
        simpa using hI j hj hj
      rw [this]; decide⟩) xs.length k 0 () (by omega) (by omega) (fun j _ h => by omega)
  have hr' : slices_IndexFunc_int_int_impl_isTree_c1.l0 k xs (xs.length : Int) 0 = some r := hr
  rw [hr', Option.bind_some, hq]
/-- Each node at most once. -/
def once (xs : List INode) : Bool := (usesL xs).all fun x => decide ((0 : Int) ≤ x) && decide (x ≤ 1)
theorem once_any (xs : List INode) (hn : xs.length ≤ 24) : (!(usesL xs).any fun x => decide (x > 1)) = once xs := by
  have h := uses_upTo xs hn
  unfold once
  rw [Bool.eq_iff_iff, Bool.not_eq_true', List.any_eq_false, List.all_eq_true]
  constructor
  · intro hh x hx
    have h1 := hh x hx
    have h2 := h x hx
    simp only [decide_eq_true_eq, Bool.and_eq_true] at h1 ⊢
    omega
  · intro hh x hx
    have h1 := hh x hx
    simp only [decide_eq_true_eq, Bool.and_eq_true] at h1 ⊢
    omega
theorem isTreeI_f (k : Nat) (xs : List INode) (hk : 4 * xs.length + 60 < k) (hn : xs.length ≤ 1048576) : impl_isTree.f k xs = some (isE xs && once xs) := by
  unfold impl_isTree.f
  rw [isExpr_f k xs hk hn, Option.bind_some]
  cases h : isE xs with
  | false => rfl
  | true =>
    obtain ⟨h1, h2, h3⟩ := isE_true h
    rw [if_pos rfl, (uses_f k xs h3 hn (by omega)).2, Option.bind_some, anyOver_f k _ (by rw [usesL_length]; omega) (by rw [usesL_length]; omega), Option.bind_some, once_any xs h2]
    rfl
theorem exTree_f (k : Nat) (xs : List INode) (hE : isE xs = true) (hk : 4 * xs.length + 60 < k) (hn : xs.length ≤ 1048576) : spec_exTree.f k xs = some (once xs) := by
  obtain ⟨h1, h2, h3⟩ := isE_true hE
  unfold spec_exTree.f
  rw [(uses_f k xs h3 hn (by omega)).1, Option.bind_some, l1All_f k _ 0 1 (by rw [usesL_length]; omega) (by rw [usesL_length]; omega)]
  rfl
end Go.Proofs.Ytlcplhcccgbmnaa.PureOps
