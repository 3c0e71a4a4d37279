/- Lists of registers: copies, marks; strictly increasing ones; lists that name each register once. Plain. -/
import Derived.Test.YtecmlikhmkcdpaaLoops
import Derived.Test.YtecmlikhmkcdpaaPureGoodI
import Derived.Test.YtecmlikhmkcdpaaFSpecL1Has
import Derived.Test.YtecmlikhmkcdpaaFSpecL1Has
import Derived.Test.YtecmlikhmkcdpaaFSpecL1Has
import Derived.Test.YtecmlikhmkcdpaaFSpecL1Has
import Derived.Test.YtecmlikhmkcdpaaFSpecL1Has
import Derived.Test.YtecmlikhmkcdpaaFSpecL1Has
import Derived.Test.YtecmlikhmkcdpaaFCmpIsNaNInt
import Derived.Test.YtecmlikhmkcdpaaFCmpIsNaNInt
namespace Go.Proofs.Ytecmlikhmkcdpaa.PureCd
open Go.RowKit Go.Proofs.Ytecmlikhmkcdpaa.PureOps Go.Proofs.Ytecmlikhmkcdpaa.F Go.Proofs.YtecmlikhmkcdpaaW.PrintWords Go.Proofs.YtecmlikhmkcdpaaW.PrintLast Go.Proofs.YtecmlikhmkcdpaaW.PrintMore
set_option linter.unusedVariables false
set_option linter.unusedSimpArgs false
theorem rdN (xs : List Int) (i : Nat) (h : i < xs.length) : rd xs (i : Int) = xs[i] := by
  simp [rd, List.getD_eq_getElem?_getD, h]
theorem toIntN_f (k : Nat) (xs : List Int) (hn : xs.length ≤ 1048576) (hk : xs.length < k) : laws_toIntS.f k xs = some xs := by
  unfold laws_toIntS.f
  rw [if_pos (by omega), if_pos (by simp; omega)]
  obtain ⟨r, hr, hq⟩ := some_loop (fun k s i => laws_toIntS.l0 k xs s i) xs.length (by omega) 0 (fun i (s : List Int) => s.length = xs.length ∧ ∀ j, j < i → s[j]? = xs[j]?) (fun r => r = xs)
    (fun k i s _ hi hI => by
      right
      refine ⟨s.set i xs[i], ?_, by simp [hI.1], fun j hj => ?_⟩
      · simp only [laws_toIntS.l0]
        rw [if_pos (by omega), if_pos (by omega), if_pos (by omega), rdN xs i hi, Int.toNat_natCast]
      · by_cases e : j = i
        · subst e
          rw [List.getElem?_set_self (by omega)]
          simp [hi]
        · rw [List.getElem?_set_ne (fun h => e h.symm)]
          exact hI.2 j (by omega))
    (fun k s _ hI => ⟨s, by simp only [laws_toIntS.l0]; rw [if_neg (by omega)], by
      apply List.ext_getElem?
      intro j
      by_cases hj : j < xs.length
      · exact hI.2 j hj
      · rw [List.getElem?_eq_none (by omega), List.getElem?_eq_none (by omega)]⟩) xs.length k 0 (List.replicate ((xs.length : Int)).toNat 0) (by omega) (by omega) ⟨by simp, fun j hj => by omega⟩
  rw [hq] at hr
  exact hr
theorem eqIntN_f (k : Nat) (xs : List Int) (hn : xs.length ≤ 1048576) (hk : xs.length < k) : laws_eqIntS.f k xs xs = some true := by
  unfold laws_eqIntS.f
  rw [if_pos rfl]
  obtain ⟨r, hr, hq⟩ := some_loop (fun k (_ : Unit) i => laws_eqIntS.l0 k xs xs i) xs.length (by omega) 0 (fun _ _ => True) (fun r => r = true)
    (fun k i s _ hi _ => .inr ⟨(), by
      simp only [laws_eqIntS.l0]
      rw [if_pos (by omega), if_pos (by omega), if_pos (by omega), if_pos trivial], trivial⟩)
    (fun k s _ _ => ⟨true, by simp only [laws_eqIntS.l0]; rw [if_neg (by omega)], rfl⟩) xs.length k 0 () (by omega) (by omega) trivial
  rw [← hq]
  exact hr
theorem markIntN_g (k : Nat) (xs : List Int) (s0 : Int) (hs : 0 ≤ s0) (hs' : s0 ≤ 1000000000000) (hn : xs.length ≤ 1048576) (hk : xs.length < k) : ∃ r, laws_markIntS.f k xs s0 = some r ∧ 0 ≤ r.1 := by
  unfold laws_markIntS.f
  exact some_loop (fun k (s : List Int × Int) i => laws_markIntS.l0 k s.1 s.2 i) xs.length (by omega) 0 (fun i s => s.1.length = xs.length ∧ s.2 = s0 + (i : Int)) (fun r => 0 ≤ r.1)
    (fun k i s _ hi hI => .inr ⟨(s.1.set i s.2, s.2 + 1), by
      simp only [laws_markIntS.l0]
      rw [if_pos (by omega), if_pos (by omega), Int.toNat_natCast, wrap64_small (n := s.2 + 1) (by omega) (by omega)], by simp [hI.1], by show s.2 + 1 = s0 + ((i + 1 : Nat) : Int); omega⟩)
    (fun k s _ hI => ⟨(s.2, s.1), by simp only [laws_markIntS.l0]; rw [if_neg (by omega)], by have := hI.2; show 0 ≤ s.2; omega⟩) xs.length k 0 (xs, s0) (by omega) (by omega) ⟨rfl, by simp⟩
theorem allN_f (k : Nat) (xs : List Int) (l h : Int) (hn : xs.length ≤ 1048576) (hk : xs.length < k) : spec_l1All.f k xs l h = some (xs.all fun x => decide (l ≤ x) && decide (x ≤ h)) := by
  unfold spec_l1All.f
  obtain ⟨r, hr, hq⟩ := some_loop (fun k (_ : Unit) i => spec_l1All.l0 k l h xs (xs.length : Int) i) xs.length (by omega) 0 (fun i _ => ∀ j (hj : j < xs.length), j < i → (decide (l ≤ xs[j]) && decide (xs[j] ≤ h)) = true) (fun r => r = xs.all fun x => decide (l ≤ x) && decide (x ≤ h))
    (fun k i s _ hi hI => by
      cases hc : (decide (l ≤ xs[i]) && decide (xs[i] ≤ h)) with
      | false =>
        refine .inl ⟨false, ?_, ?_⟩
        · simp only [spec_l1All.l0]
          rw [if_pos (by omega), if_pos (by omega), if_pos (by omega), rdN xs i hi, l1In_f, hc, Option.bind_some, if_neg (by decide)]
        · symm; rw [List.all_eq_false]; exact ⟨xs[i], List.getElem_mem hi, by simp [hc]⟩
      | true =>
        refine .inr ⟨(), ?_, fun j hj hji => ?_⟩
        · simp only [spec_l1All.l0]
          rw [if_pos (by omega), if_pos (by omega), if_pos (by omega), rdN xs i hi, l1In_f, hc, Option.bind_some, if_pos rfl]
        · by_cases e : j = i
          · subst e; exact hc
          · exact hI j hj (by omega))
    (fun k s _ hI => ⟨true, by simp only [spec_l1All.l0]; rw [if_neg (by omega)], by
      symm
      rw [List.all_eq_true]
      intro x hx
      obtain ⟨j, hj, rfl⟩ := List.mem_iff_getElem.1 hx
      exact hI j hj hj⟩) xs.length k 0 () (by omega) (by omega) (fun j _ h => by omega)
  rw [← hq]; exact hr
theorem hasN_f (k : Nat) (xs : List Int) (v : Int) (hn : xs.length ≤ 1048576) (hk : xs.length < k) : spec_l1Has.f k xs v = some (xs.contains v) := by
  unfold spec_l1Has.f
  obtain ⟨r, hr, hq⟩ := some_loop (fun k (_ : Unit) i => spec_l1Has.l0 k v xs (xs.length : Int) i) xs.length (by omega) 0 (fun i _ => ∀ j (hj : j < xs.length), j < i → xs[j] ≠ v) (fun r => r = xs.contains v)
    (fun k i s _ hi hI => by
      by_cases hc : xs[i] = v
      · refine .inl ⟨true, ?_, ?_⟩
        · simp only [spec_l1Has.l0]
          rw [if_pos (by omega), if_pos (by omega), if_pos (by omega), rdN xs i hi, if_pos hc]
        · symm; rw [List.contains_iff_mem, ← hc]; exact List.getElem_mem hi
      · refine .inr ⟨(), ?_, fun j hj hji => ?_⟩
        · simp only [spec_l1Has.l0]
          rw [if_pos (by omega), if_pos (by omega), if_pos (by omega), rdN xs i hi, if_neg hc]
        · by_cases e : j = i
          · subst e; exact hc
          · exact hI j hj (by omega))
    (fun k s _ hI => ⟨false, by simp only [spec_l1Has.l0]; rw [if_neg (by omega)], by
      symm
      rw [Bool.eq_false_iff]
      intro h
      obtain ⟨j, hj, e⟩ := List.mem_iff_getElem.1 (List.contains_iff_mem.1 h)
      exact hI j hj hj e⟩) xs.length k 0 () (by omega) (by omega) (fun j _ h => by omega)
  rw [← hq]; exact hr
/-- Each register once. -/
def namesOk (u : List Int) : Bool := decide (u.length = 6) && ((u.all fun x => decide (0 ≤ x) && decide (x ≤ 5)) && decide u.Nodup)
theorem nodup_iff (u : List Int) : u.Nodup ↔ ∀ i (hi : i < u.length), u[i] ∉ u.take i := by
  unfold List.Nodup
  rw [List.pairwise_iff_getElem]
  constructor
  · intro h i hi hm
    obtain ⟨j, hj, e⟩ := List.mem_iff_getElem.1 hm
    rw [List.length_take] at hj
    rw [List.getElem_take] at e
    exact h j i (by omega) hi (by omega) e
  · intro h i j hi hj hij e
    refine h j hj ?_
    rw [← e]
    exact List.mem_iff_getElem.2 ⟨i, by rw [List.length_take]; omega, by rw [List.getElem_take]⟩
theorem cdNames_f (k : Nat) (u : List Int) (hn : u.length ≤ 1048576) (hk : u.length + 40 < k) : spec_cdNames.f k u = some (namesOk u) := by
  unfold spec_cdNames.f namesOk
  by_cases h6 : u.length = 6
  · rw [if_pos (by omega), allN_f k u 0 5 hn (by omega), Option.bind_some, decide_eq_true h6, Bool.true_and]
    obtain ⟨k, rfl⟩ : ∃ m, k = m + 1 := ⟨k - 1, by omega⟩
    simp only [spec_cdNames.j0]
    cases ha : (u.all fun x => decide (0 ≤ x) && decide (x ≤ 5)) with
    | false => rfl
    | true =>
      rw [if_neg (by decide), Bool.true_and]
      obtain ⟨r, hr, hq⟩ := some_loop (fun k (_ : Unit) i => spec_cdNames.l0 k u u (u.length : Int) i) u.length (by omega) 30 (fun i _ => ∀ j (hj : j < u.length), j < i → u[j] ∉ u.take j) (fun r => r = decide u.Nodup)
        (fun k i s hk hi hI => by
          have ht : (u.take i).length ≤ 6 := by rw [List.length_take]; omega
          by_cases hc : u[i] ∈ u.take i
          · refine .inl ⟨false, ?_, ?_⟩
            · simp only [spec_cdNames.l0]
              rw [if_pos (by omega), if_pos (by omega), if_pos (by omega), if_pos (by omega), Int.toNat_natCast, rdN u i hi, hasN_f k _ _ (by omega) (by omega), Option.bind_some, if_pos (List.contains_iff_mem.2 hc)]
            · symm
              rw [decide_eq_false_iff_not, nodup_iff]
              exact fun h => h i hi hc
          · refine .inr ⟨(), ?_, fun j hj hji => ?_⟩
            · simp only [spec_cdNames.l0]
              rw [if_pos (by omega), if_pos (by omega), if_pos (by omega), if_pos (by omega), Int.toNat_natCast, rdN u i hi, hasN_f k _ _ (by omega) (by omega), Option.bind_some, if_neg (fun h => hc (List.contains_iff_mem.1 h))]
            · by_cases e : j = i
              · subst e; exact hc
              · exact hI j hj (by omega))
        (fun k s _ hI => ⟨true, by simp only [spec_cdNames.l0]; rw [if_neg (by omega)], by
          symm
          rw [decide_eq_true_eq, nodup_iff]
          exact fun i hi => hI i hi hi⟩) u.length k 0 () (by omega) (by omega) (fun j _ h => by omega)
      rw [← hq]; exact hr
  · rw [if_neg (by omega), decide_eq_false h6, Bool.false_and]
    obtain ⟨k, rfl⟩ : ∃ m, k = m + 1 := ⟨k - 1, by omega⟩
    simp only [spec_cdNames.j0]
    rw [if_pos trivial]
theorem rising_iff (l : List Int) : l.Pairwise (· < ·) ↔ ∀ j (h1 : 1 ≤ j) (hj : j < l.length), l[j - 1] < l[j] := by
  rw [List.pairwise_iff_getElem]
  constructor
  · intro h j h1 hj
    exact h (j - 1) j (by omega) hj (by omega)
  · intro h i j hi hj hij
    have key : ∀ d (hd : i + d + 1 < l.length), l[i] < l[i + d + 1] := by
      intro d
      induction d with
      | zero => intro hd; exact h (i + 1) (by omega) hd
      | succ d ih =>
        intro hd
        have h1 := ih (by omega)
        have h2 := h (i + (d + 1) + 1) (by omega) hd
        have h3 : l[i + (d + 1) + 1 - 1] = l[i + d + 1] := rfl
        omega
    have := key (j - i - 1) (by omega)
    have e : l[i + (j - i - 1) + 1]'(by omega) = l[j] := by congr 1; omega
    omega
theorem isRising_f (k : Nat) (l : List Int) (hn : l.length ≤ 1048576) (hk : l.length + 1 < k) : impl_isRising.f k l = some (decide (l.Pairwise (· < ·))) := by
  unfold impl_isRising.f
  by_cases h0 : l.length = 0
  · obtain rfl := List.length_eq_zero_iff.1 h0
    obtain ⟨k, rfl⟩ : ∃ m, k = m + 1 := ⟨k - 1, by omega⟩
    simp only [impl_isRising.l0]
    rw [if_neg (by simp)]
    simp
  · obtain ⟨r, hr, hq⟩ := some_loop (fun k (_ : Unit) i => impl_isRising.l0 k l i) l.length (by omega) 0 (fun i _ => 1 ≤ i ∧ ∀ j (h1 : 1 ≤ j) (hj : j < l.length), j < i → l[j - 1] < l[j]) (fun r => r = decide (l.Pairwise (· < ·)))
      (fun k i s _ hi hI => by
        have h1 := hI.1
        have hw : wrap64 ((i : Int) - 1) = ((i - 1 : Nat) : Int) := by rw [wrap64_small (by omega) (by omega)]; omega
        by_cases hc : l[i - 1] < l[i]
        · refine .inr ⟨(), ?_, by omega, fun j h1 hj hji => ?_⟩
          · simp only [impl_isRising.l0]
            rw [hw, if_pos (by omega), if_pos (by omega), if_pos (by omega), if_pos (by omega), rdN l i hi, rdN l (i - 1) (by omega), if_neg (by omega)]
          · by_cases e : j = i
            · subst e; exact hc
            · exact hI.2 j h1 hj (by omega)
        · refine .inl ⟨false, ?_, ?_⟩
          · simp only [impl_isRising.l0]
            rw [hw, if_pos (by omega), if_pos (by omega), if_pos (by omega), if_pos (by omega), rdN l i hi, rdN l (i - 1) (by omega), if_pos (by omega)]
          · symm
            rw [decide_eq_false_iff_not, rising_iff]
            exact fun h => hc (h i h1 hi))
      (fun k s _ hI => ⟨true, by simp only [impl_isRising.l0]; rw [if_neg (by omega)], by
        symm
        rw [decide_eq_true_eq, rising_iff]
        exact fun j h1 hj => hI.2 j h1 hj hj⟩) (l.length - 1) k 1 () (by omega) (by omega) ⟨by omega, fun j h1 _ h => by omega⟩
    rw [← hq]; exact hr
theorem notReg_f (k : Nat) (xs : List Int) (hn : xs.length ≤ 1048576) (hk : xs.length < k) : slices_ContainsFunc_int_int_impl_areWanted_c1.f k xs = some (!(xs.all reg)) := by
  unfold slices_ContainsFunc_int_int_impl_areWanted_c1.f slices_IndexFunc_int_int_impl_areWanted_c1.f
  obtain ⟨r, hr, hq⟩ := some_loop (fun k (_ : Unit) i => slices_IndexFunc_int_int_impl_areWanted_c1.l0 k xs (xs.length : Int) i) xs.length (by omega) 0 (fun i _ => ∀ j (hj : j < xs.length), j < i → reg xs[j] = true) (fun r => decide (r ≥ 0) = !(xs.all reg))
    (fun k i s _ hi hI => by
      cases hc : reg xs[i] with
      | false =>
        refine .inl ⟨i, ?_, ?_⟩
        · simp only [slices_IndexFunc_int_int_impl_areWanted_c1.l0, impl_areWanted_c1.f]
          rw [if_pos (by omega), if_pos (by omega), if_pos (by omega), rdN xs i hi, isRegister_f, hc, Option.bind_some, Option.bind_some, if_pos (by decide)]
        · rw [decide_eq_true (by omega)]
          have : xs.all reg = false := by rw [List.all_eq_false]; exact ⟨xs[i], List.getElem_mem hi, by simp [hc]⟩
          rw [this]; rfl
      | true =>
        refine .inr ⟨(), ?_, fun j hj hji => ?_⟩
        · simp only [slices_IndexFunc_int_int_impl_areWanted_c1.l0, impl_areWanted_c1.f]
          rw [if_pos (by omega), if_pos (by omega), if_pos (by omega), rdN xs i hi, isRegister_f, hc, Option.bind_some, Option.bind_some, if_neg (by decide)]
        · by_cases e : j = i
          · subst e; exact hc
          · exact hI j hj (by omega))
    (fun k s _ hI => ⟨-1, by simp only [slices_IndexFunc_int_int_impl_areWanted_c1.l0]; rw [if_neg (by omega)], by
      have : xs.all reg = true := by
        rw [List.all_eq_true]
        intro x hx
        obtain ⟨j, hj, rfl⟩ := List.mem_iff_getElem.1 hx
        exact hI j hj hj
      rw [this]; rfl⟩) xs.length k 0 () (by omega) (by omega) (fun j _ h => by omega)
  rw [show slices_IndexFunc_int_int_impl_areWanted_c1.l0 k xs (xs.length : Int) 0 = some r from hr, Option.bind_some, hq]
/-- A strictly increasing list of registers. -/
def wantedL (l : List Int) : Bool := decide (l.Pairwise (· < ·)) && l.all reg
theorem areWanted_f (k : Nat) (l : List Int) (hn : l.length ≤ 1048576) (hk : l.length + 1 < k) : impl_areWanted.f k l = some (wantedL l) := by
  unfold impl_areWanted.f wantedL
  rw [isRising_f k l hn hk, Option.bind_some, notReg_f k l hn (by omega)]
  cases decide (l.Pairwise (· < ·)) <;> simp
theorem sorted_names (u : List Int) : wantedL (u.mergeSort fun x y => decide (x ≤ y)) = ((u.all fun x => decide (0 ≤ x) && decide (x ≤ 5)) && decide u.Nodup) := by
  have hp := List.mergeSort_perm u (fun x y => decide (x ≤ y))
  have hs : (u.mergeSort fun x y => decide (x ≤ y)).Pairwise (fun x y => x ≤ y) := by
    refine (List.pairwise_mergeSort (le := fun x y : Int => decide (x ≤ y)) ?_ ?_ u).imp ?_
    · intro a b c h1 h2
      simp only [decide_eq_true_eq] at *
      omega
    · intro a b
      simp only [Bool.or_eq_true, decide_eq_true_eq]
      omega
    · intro a b h
      simpa using h
  have hnd := hp.nodup_iff
  have hall : (u.mergeSort fun x y => decide (x ≤ y)).all reg = u.all reg := by
    rw [Bool.eq_iff_iff, List.all_eq_true, List.all_eq_true]
    exact ⟨fun h x hx => h x (hp.mem_iff.2 hx), fun h x hx => h x (hp.mem_iff.1 hx)⟩
  generalize (u.mergeSort fun x y => decide (x ≤ y)) = l at *
  unfold wantedL
  rw [hall, Bool.and_comm]
  have e : decide (l.Pairwise (· < ·)) = decide u.Nodup := by
    rw [Bool.eq_iff_iff, decide_eq_true_eq, decide_eq_true_eq, ← hnd]
    unfold List.Nodup
    constructor
    · exact fun h => h.imp (fun h1 h2 => by omega)
    · intro h
      exact (List.Pairwise.and hs h).imp (fun h1 => by omega)
  rw [e]
  rfl
end Go.Proofs.Ytecmlikhmkcdpaa.PureCd
