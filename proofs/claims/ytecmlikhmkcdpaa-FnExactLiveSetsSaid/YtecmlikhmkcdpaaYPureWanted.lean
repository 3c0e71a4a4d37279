/- Strictly increasing lists of registers, as the program and the reference tell them. Plain. -/
import Derived.Test.YtecmlikhmkcdpaaYLoops
import Derived.Test.YtecmlikhmkcdpaaYPureGoodI
import Derived.Test.YtecmlikhmkcdpaaGImplInstrReads
namespace Go.Proofs.Ytecmlikhmkcdpaa.PureOps
open Go.RowKit Go.Proofs.Ytecmlikhmkcdpaa.G Go.Proofs.YtecmlikhmkcdpaaW.PrintWords Go.Proofs.YtecmlikhmkcdpaaW.PrintLast Go.Proofs.YtecmlikhmkcdpaaW.PrintMore
set_option linter.unusedVariables false
set_option linter.unusedSimpArgs false
theorem rdN (xs : List Int) (i : Nat) (h : i < xs.length) : rd xs (i : Int) = xs[i] := by
  simp [rd, List.getD_eq_getElem?_getD, h]
theorem toIntN_f (k : Nat) (xs : List Int) (hn : xs.length ≤ 1048576) (hk : xs.length < k) : laws_toIntS.f k xs = some xs := by
  unfold laws_toIntS.f
  rw [if_pos (by omega), if_pos (by simp; omega)]
  obtain ⟨r, hr, hq⟩ := some_loop (fun k s i => laws_toIntS.l0 k xs s i) xs.length (by omega) 0 (fun i (s : List Int) => s.length = xs.length ∧ ∀ j, j < i → s[j]? = xs[j]?) (fun r => r = xs)
    (fun k i s _ hi hI => by
      right
      refine ⟨s.set i xs[i], ?_, by simp [hI.1], fun j hj => ?_⟩
      · simp only [laws_toIntS.l0]
        rw [if_pos (by omega), if_pos (by omega), if_pos (by omega), rdN xs i hi, Int.toNat_natCast]
      · by_cases e : j = i
        · subst e
          rw [List.getElem?_set_self (by omega)]
          simp [hi]
        · rw [List.getElem?_set_ne (fun h => e h.symm)]
          exact hI.2 j (by omega))
    (fun k s _ hI => ⟨s, by simp only [laws_toIntS.l0]; rw [if_neg (by omega)], by
      apply List.ext_getElem?
      intro j
      by_cases hj : j < xs.length
      · exact hI.2 j hj
      · rw [List.getElem?_eq_none (by omega), List.getElem?_eq_none (by omega)]⟩) xs.length k 0 (List.replicate ((xs.length : Int)).toNat 0) (by omega) (by omega) ⟨by simp, fun j hj => by omega⟩
  rw [hq] at hr
  exact hr
theorem eqIntN_f (k : Nat) (xs : List Int) (hn : xs.length ≤ 1048576) (hk : xs.length < k) : laws_eqIntS.f k xs xs = some true := by
  unfold laws_eqIntS.f
  rw [if_pos rfl]
  obtain ⟨r, hr, hq⟩ := some_loop (fun k (_ : Unit) i => laws_eqIntS.l0 k xs xs i) xs.length (by omega) 0 (fun _ _ => True) (fun r => r = true)
    (fun k i s _ hi _ => .inr ⟨(), by
      simp only [laws_eqIntS.l0]
      rw [if_pos (by omega), if_pos (by omega), if_pos (by omega), if_pos trivial], trivial⟩)
    (fun k s _ _ => ⟨true, by simp only [laws_eqIntS.l0]; rw [if_neg (by omega)], rfl⟩) xs.length k 0 () (by omega) (by omega) trivial
  rw [← hq]
  exact hr
theorem rising_iff (l : List Int) : l.Pairwise (· < ·) ↔ ∀ j (h1 : 1 ≤ j) (hj : j < l.length), l[j - 1] < l[j] := by
  rw [List.pairwise_iff_getElem]
  constructor
  · intro h j h1 hj
    exact h (j - 1) j (by omega) hj (by omega)
  · intro h i j hi hj hij
    have key : ∀ d (hd : i + d + 1 < l.length), l[i] < l[i + d + 1] := by
      intro d
      induction d with
      | zero => intro hd; exact h (i + 1) (by omega) hd
      | succ d ih =>
        intro hd
        have h1 := ih (by omega)
        have h2 := h (i + (d + 1) + 1) (by omega) hd
        have h3 : l[i + (d + 1) + 1 - 1] = l[i + d + 1] := rfl
        omega
    have := key (j - i - 1) (by omega)
    have e : l[i + (j - i - 1) + 1]'(by omega) = l[j] := by congr 1; omega
    omega
theorem isRising_f (k : Nat) (l : List Int) (hn : l.length ≤ 1048576) (hk : l.length + 1 < k) : impl_isRising.f k l = some (decide (l.Pairwise (· < ·))) := by
  unfold impl_isRising.f
  by_cases h0 : l.length = 0
  · obtain rfl := List.length_eq_zero_iff.1 h0
    obtain ⟨k, rfl⟩ : ∃ m, k = m + 1 := ⟨k - 1, by omega⟩
    simp only [impl_isRising.l0]
    rw [if_neg (by simp)]
    simp
  · obtain ⟨r, hr, hq⟩ := some_loop (fun k (_ : Unit) i => impl_isRising.l0 k l i) l.length (by omega) 0 (fun i _ => 1 ≤ i ∧ ∀ j (h1 : 1 ≤ j) (hj : j < l.length), j < i → l[j - 1] < l[j]) (fun r => r = decide (l.Pairwise (· < ·)))
      (fun k i s _ hi hI => by
        have h1 := hI.1
        have hw : wrap64 ((i : Int) - 1) = ((i - 1 : Nat) : Int) := by rw [wrap64_small (by omega) (by omega)]; omega
        by_cases hc : l[i - 1] < l[i]
        · refine .inr ⟨(), ?_, by omega, fun j h1 hj hji => ?_⟩
          · simp only [impl_isRising.l0]
            rw [hw, if_pos (by omega), if_pos (by omega), if_pos (by omega), if_pos (by omega), rdN l i hi, rdN l (i - 1) (by omega), if_neg (by omega)]
          · by_cases e : j = i
            · subst e; exact hc
            · exact hI.2 j h1 hj (by omega)
        · refine .inl ⟨false, ?_, ?_⟩
          · simp only [impl_isRising.l0]
            rw [hw, if_pos (by omega), if_pos (by omega), if_pos (by omega), if_pos (by omega), rdN l i hi, rdN l (i - 1) (by omega), if_pos (by omega)]
          · symm
            rw [decide_eq_false_iff_not, rising_iff]
            exact fun h => hc (h i h1 hi))
      (fun k s _ hI => ⟨true, by simp only [impl_isRising.l0]; rw [if_neg (by omega)], by
        symm
        rw [decide_eq_true_eq, rising_iff]
        exact fun j h1 hj => hI.2 j h1 hj hj⟩) (l.length - 1) k 1 () (by omega) (by omega) ⟨by omega, fun j h1 _ h => by omega⟩
    rw [← hq]; exact hr
theorem notReg_f (k : Nat) (xs : List Int) (hn : xs.length ≤ 1048576) (hk : xs.length < k) : slices_ContainsFunc_int_int_impl_areWanted_c1.f k xs = some (!(xs.all reg)) := by
  unfold slices_ContainsFunc_int_int_impl_areWanted_c1.f slices_IndexFunc_int_int_impl_areWanted_c1.f
  obtain ⟨r, hr, hq⟩ := some_loop (fun k (_ : Unit) i => slices_IndexFunc_int_int_impl_areWanted_c1.l0 k xs (xs.length : Int) i) xs.length (by omega) 0 (fun i _ => ∀ j (hj : j < xs.length), j < i → reg xs[j] = true) (fun r => decide (r ≥ 0) = !(xs.all reg))
    (fun k i s _ hi hI => by
      cases hc : reg xs[i] with
      | false =>
        refine .inl ⟨i, ?_, ?_⟩
        · simp only [slices_IndexFunc_int_int_impl_areWanted_c1.l0, impl_areWanted_c1.f]
          rw [if_pos (by omega), if_pos (by omega), if_pos (by omega), rdN xs i hi, isRegister_f, hc, Option.bind_some, Option.bind_some, if_pos (by decide)]
        · rw [decide_eq_true (by omega)]
          have : xs.all reg = false := by rw [List.all_eq_false]; exact ⟨xs[i], List.getElem_mem hi, by simp [hc]⟩
          rw [this]; rfl
      | true =>
        refine .inr ⟨(), ?_, fun j hj hji => ?_⟩
        · simp only [slices_IndexFunc_int_int_impl_areWanted_c1.l0, impl_areWanted_c1.f]
          rw [if_pos (by omega), if_pos (by omega), if_pos (by omega), rdN xs i hi, isRegister_f, hc, Option.bind_some, Option.bind_some, if_neg (by decide)]
        · by_cases e : j = i
          · subst e; exact hc
          · exact hI j hj (by omega))
    (fun k s _ hI => ⟨-1, by simp only [slices_IndexFunc_int_int_impl_areWanted_c1.l0]; rw [if_neg (by omega)], by
      have : xs.all reg = true := by
        rw [List.all_eq_true]
        intro x hx
        obtain ⟨j, hj, rfl⟩ := List.mem_iff_getElem.1 hx
        exact hI j hj hj
      rw [this]; rfl⟩) xs.length k 0 () (by omega) (by omega) (fun j _ h => by omega)
  rw [show slices_IndexFunc_int_int_impl_areWanted_c1.l0 k xs (xs.length : Int) 0 = some r from hr, Option.bind_some, hq]
/-- A strictly increasing list of registers. -/
def wantedL (l : List Int) : Bool := decide (l.Pairwise (· < ·)) && l.all reg
theorem areWanted_f (k : Nat) (l : List Int) (hn : l.length ≤ 1048576) (hk : l.length + 1 < k) : impl_areWanted.f k l = some (wantedL l) := by
  unfold impl_areWanted.f wantedL
  rw [isRising_f k l hn hk, Option.bind_some, notReg_f k l hn (by omega)]
  cases decide (l.Pairwise (· < ·)) <;> simp
theorem cdWanted_f (k : Nat) (l : List Int) (hn : l.length ≤ 1048576) (hk : l.length < k) : spec_cdWanted.f k l = some (wantedL l) := by
  unfold spec_cdWanted.f spec_l1Rising.f wantedL
  obtain ⟨r, hr, hq⟩ := some_loop (fun k (_ : Unit) i => spec_l1Rising.l0 k l 0 5 l (l.length : Int) i) l.length (by omega) 0 (fun i _ => (∀ j (h1 : 1 ≤ j) (hj : j < l.length), j < i → l[j - 1] < l[j]) ∧ ∀ j (hj : j < l.length), j < i → reg l[j] = true) (fun r => r = (decide (l.Pairwise (· < ·)) && l.all reg))
    (fun k i s _ hi hI => by
      have hin : (decide (0 ≤ l[i]) && decide (l[i] ≤ 5)) = reg l[i] := rfl
      cases hc : reg l[i] with
      | false =>
        refine .inl ⟨false, ?_, ?_⟩
        · simp only [spec_l1Rising.l0]
          rw [if_pos (by omega), if_pos (by omega), if_pos (by omega), rdN l i hi, l1In_f, hin, hc, Option.bind_some, if_neg (by decide)]
        · have : l.all reg = false := by rw [List.all_eq_false]; exact ⟨l[i], List.getElem_mem hi, by simp [hc]⟩
          rw [this, Bool.and_false]
      | true =>
        by_cases h0 : i = 0
        · subst h0
          refine .inr ⟨(), ?_, fun j h1 hj hji => by omega, fun j hj hji => ?_⟩
          · simp only [spec_l1Rising.l0]
            rw [if_pos (by omega), if_pos (by omega), if_pos (by omega), rdN l 0 hi, l1In_f, hin, hc, Option.bind_some, if_pos rfl, if_neg (by omega)]
          · obtain rfl : j = 0 := by omega
            exact hc
        · have hw : wrap64 ((i : Int) - 1) = ((i - 1 : Nat) : Int) := by rw [wrap64_small (by omega) (by omega)]; omega
          by_cases hlt : l[i - 1] < l[i]
          · refine .inr ⟨(), ?_, fun j h1 hj hji => ?_, fun j hj hji => ?_⟩
            · simp only [spec_l1Rising.l0]
              rw [if_pos (by omega), if_pos (by omega), if_pos (by omega), rdN l i hi, l1In_f, hin, hc, Option.bind_some, if_pos rfl, if_pos (by omega), hw, if_pos (by omega), if_pos (by omega), rdN l (i - 1) (by omega), if_neg (by omega)]
            · by_cases e : j = i
              · subst e; exact hlt
              · exact hI.1 j h1 hj (by omega)
            · by_cases e : j = i
              · subst e; exact hc
              · exact hI.2 j hj (by omega)
          · refine .inl ⟨false, ?_, ?_⟩
            · simp only [spec_l1Rising.l0]
              rw [if_pos (by omega), if_pos (by omega), if_pos (by omega), rdN l i hi, l1In_f, hin, hc, Option.bind_some, if_pos rfl, if_pos (by omega), hw, if_pos (by omega), if_pos (by omega), rdN l (i - 1) (by omega), if_pos (by omega)]
            · have : decide (l.Pairwise (· < ·)) = false := by
                rw [decide_eq_false_iff_not, rising_iff]
                exact fun h => hlt (h i (by omega) hi)
              rw [this, Bool.false_and])
    (fun k s _ hI => ⟨true, by simp only [spec_l1Rising.l0]; rw [if_neg (by omega)], by
      have h1 : decide (l.Pairwise (· < ·)) = true := by
        rw [decide_eq_true_eq, rising_iff]
        exact fun j h1 hj => hI.1 j h1 hj hj
      have h2 : l.all reg = true := by
        rw [List.all_eq_true]
        intro x hx
        obtain ⟨j, hj, rfl⟩ := List.mem_iff_getElem.1 hx
        exact hI.2 j hj hj
      rw [h1, h2]; rfl⟩) l.length k 0 () (by omega) (by omega) ⟨fun j h1 _ h => by omega, fun j _ h => by omega⟩
  rw [show spec_l1Rising.l0 k l 0 5 l (l.length : Int) 0 = some r from hr, Option.bind_some, hq]
end Go.Proofs.Ytecmlikhmkcdpaa.PureOps
