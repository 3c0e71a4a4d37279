/- Lists of whole numbers that came in, copied; words for all registers. Plain. -/
import Derived.Test.YtecmlikhmkcdpaaYPureWords
import Derived.Test.YtecmlikhmkcdpaaYPureGoodI
import Derived.Test.YtecmlikhmkcdpaaGImplRun
namespace Go.Proofs.Ytecmlikhmkcdpaa.PureOps
open Go.RowKit Go.Proofs.Ytecmlikhmkcdpaa.G Go.Proofs.YtecmlikhmkcdpaaW.PrintWords Go.Proofs.YtecmlikhmkcdpaaW.PrintLast Go.Proofs.YtecmlikhmkcdpaaW.PrintMore
set_option linter.unusedVariables false
set_option linter.unusedSimpArgs false
theorem isWord_f (n : Int) : impl_isWord.f n = some (word n) := by
  unfold impl_isWord.f word
  rw [within_f]; rfl
theorem toIntS_f (k : Nat) (xs : List Int) (hn : xs.length ≤ 1048576) (hk : xs.length < k) : laws_toIntS.f k xs = some xs := by
  unfold laws_toIntS.f
  rw [if_pos (by omega), if_pos (by simp; omega)]
  obtain ⟨r, hr, hq⟩ := some_loop (fun k s i => laws_toIntS.l0 k xs s i) xs.length (by omega) 0 (fun i (s : List Int) => s.length = xs.length ∧ ∀ j, j < i → s[j]? = xs[j]?) (fun r => r = xs)
    (fun k i s _ hi hI => by
      right
      refine ⟨s.set i xs[i], ?_, by simp [hI.1], fun j hj => ?_⟩
      · simp only [laws_toIntS.l0]
        rw [if_pos (by omega), if_pos (by omega), if_pos (by omega), rd_get xs i hi, Int.toNat_natCast]
      · by_cases e : j = i
        · subst e
          rw [List.getElem?_set_self (by omega)]
          simp [hi]
        · rw [List.getElem?_set_ne (fun h => e h.symm)]
          exact hI.2 j (by omega))
    (fun k s _ hI => ⟨s, by simp only [laws_toIntS.l0]; rw [if_neg (by omega)], by
      apply List.ext_getElem?
      intro j
      by_cases hj : j < xs.length
      · exact hI.2 j hj
      · rw [List.getElem?_eq_none (by omega), List.getElem?_eq_none (by omega)]⟩) xs.length k 0 (List.replicate ((xs.length : Int)).toNat 0) (by omega) (by omega) ⟨by simp, fun j hj => by omega⟩
  rw [hq] at hr
  exact hr
theorem l1All_f (k : Nat) (xs : List Int) (l h : Int) (hn : xs.length ≤ 1048576) (hk : xs.length < k) : spec_l1All.f k xs l h = some (xs.all fun x => decide (l ≤ x) && decide (x ≤ h)) := by
  unfold spec_l1All.f
  obtain ⟨r, hr, hq⟩ := some_loop (fun k (_ : Unit) i => spec_l1All.l0 k l h xs (xs.length : Int) i) xs.length (by omega) 0 (fun i _ => ∀ j (hj : j < xs.length), j < i → (decide (l ≤ xs[j]) && decide (xs[j] ≤ h)) = true) (fun r => r = xs.all fun x => decide (l ≤ x) && decide (x ≤ h))
    (fun k i s _ hi hI => by
      cases hc : (decide (l ≤ xs[i]) && decide (xs[i] ≤ h)) with
      | false =>
        refine .inl ⟨false, ?_, ?_⟩
        · simp only [spec_l1All.l0]
          rw [if_pos (by omega), if_pos (by omega), if_pos (by omega), rd_get xs i hi, l1In_f, hc, Option.bind_some, if_neg (by decide)]
        · symm; rw [List.all_eq_false]; exact ⟨xs[i], List.getElem_mem hi, by simp [hc]⟩
      | true =>
        refine .inr ⟨(), ?_, fun j hj hji => ?_⟩
        · simp only [spec_l1All.l0]
          rw [if_pos (by omega), if_pos (by omega), if_pos (by omega), rd_get xs i hi, l1In_f, hc, Option.bind_some, if_pos rfl]
        · by_cases e : j = i
          · subst e; exact hc
          · exact hI j hj (by omega))
    (fun k s _ hI => ⟨true, by simp only [spec_l1All.l0]; rw [if_neg (by omega)], by
      symm
      rw [List.all_eq_true]
      intro x hx
      obtain ⟨j, hj, rfl⟩ := List.mem_iff_getElem.1 hx
      exact hI j hj hj⟩) xs.length k 0 () (by omega) (by omega) (fun j _ h => by omega)
  rw [← hq]; exact hr
/-- A word for each register. -/
def regsOk (u : List Int) : Bool := decide (u.length = 6) && u.all word
theorem cdRegs_f (k : Nat) (u : List Int) (hn : u.length ≤ 1048576) (hk : u.length < k) : spec_cdRegs.f k u = some (regsOk u) := by
  unfold spec_cdRegs.f regsOk
  by_cases h : u.length = 6
  · rw [if_pos (by omega), l1All_f k u 0 63 hn hk, Option.bind_some, decide_eq_true h, Bool.true_and]; rfl
  · rw [if_neg (by omega), decide_eq_false h, Bool.false_and]
theorem notWord_f (k : Nat) (xs : List Int) (hn : xs.length ≤ 1048576) (hk : xs.length < k) : slices_ContainsFunc_int_int_impl_areRegs_c1.f k xs = some (!(xs.all word)) := by
  unfold slices_ContainsFunc_int_int_impl_areRegs_c1.f slices_IndexFunc_int_int_impl_areRegs_c1.f
  obtain ⟨r, hr, hq⟩ := some_loop (fun k (_ : Unit) i => slices_IndexFunc_int_int_impl_areRegs_c1.l0 k xs (xs.length : Int) i) xs.length (by omega) 0 (fun i _ => ∀ j (hj : j < xs.length), j < i → word xs[j] = true) (fun r => decide (r ≥ 0) = !(xs.all word))
    (fun k i s _ hi hI => by
      cases hc : word xs[i] with
      | false =>
        refine .inl ⟨i, ?_, ?_⟩
        · simp only [slices_IndexFunc_int_int_impl_areRegs_c1.l0, impl_areRegs_c1.f]
          rw [if_pos (by omega), if_pos (by omega), if_pos (by omega), rd_get xs i hi, isWord_f, hc, Option.bind_some, Option.bind_some, if_pos (by decide)]
        · rw [decide_eq_true (by omega)]
          have : xs.all word = false := by rw [List.all_eq_false]; exact ⟨xs[i], List.getElem_mem hi, by simp [hc]⟩
          rw [this]; rfl
      | true =>
        refine .inr ⟨(), ?_, fun j hj hji => ?_⟩
        · simp only [slices_IndexFunc_int_int_impl_areRegs_c1.l0, impl_areRegs_c1.f]
          rw [if_pos (by omega), if_pos (by omega), if_pos (by omega), rd_get xs i hi, isWord_f, hc, Option.bind_some, Option.bind_some, if_neg (by decide)]
        · by_cases e : j = i
          · subst e; exact hc
          · exact hI j hj (by omega))
    (fun k s _ hI => ⟨-1, by simp only [slices_IndexFunc_int_int_impl_areRegs_c1.l0]; rw [if_neg (by omega)], by
      have : xs.all word = true := by
        rw [List.all_eq_true]
        intro x hx
        obtain ⟨j, hj, rfl⟩ := List.mem_iff_getElem.1 hx
        exact hI j hj hj
      rw [this]; decide⟩) xs.length k 0 () (by omega) (by omega) (fun j _ h => by omega)
  have hr' : slices_IndexFunc_int_int_impl_areRegs_c1.l0 k xs (xs.length : Int) 0 = some r := hr
  rw [hr', Option.bind_some, hq]
theorem areRegs_f (k : Nat) (u : List Int) (hn : u.length ≤ 1048576) (hk : u.length < k) : impl_areRegs.f k u = some (regsOk u) := by
  unfold impl_areRegs.f regsOk
  by_cases h : u.length = 6
  · rw [if_pos (by omega), notWord_f k u hn hk, Option.bind_some, decide_eq_true h, Bool.true_and, Bool.not_not]
  · rw [if_neg (by omega), decide_eq_false h, Bool.false_and]
theorem regsOk_iff {u : List Int} (h : regsOk u = true) : u.length = 6 ∧ words u := by
  unfold regsOk at h
  simp only [Bool.and_eq_true, decide_eq_true_eq, List.all_eq_true] at h
  exact ⟨h.1, fun x hx => word_iff.1 (h.2 x hx)⟩
end Go.Proofs.Ytecmlikhmkcdpaa.PureOps
