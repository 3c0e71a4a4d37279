/- The sets that are alive: one list of lists of both sides. Plain. -/
import Derived.Test.YtecmlikhmkcdpaaYPureLive
import Derived.Test.YtecmlikhmkcdpaaYPureCode
import Derived.Test.YtecmlikhmkcdpaaGImplInstrReads
namespace Go.Proofs.Ytecmlikhmkcdpaa.PureOps
open Go.RowKit Go.Proofs.Ytecmlikhmkcdpaa.G Go.Proofs.YtecmlikhmkcdpaaW.PrintWords Go.Proofs.YtecmlikhmkcdpaaW.PrintLast Go.Proofs.YtecmlikhmkcdpaaW.PrintMore
set_option linter.unusedVariables false
set_option linter.unusedSimpArgs false
theorem codeOk_len {xs : List IInstr} (h : codeOk xs = true) : xs.length ≤ 40 := by
  unfold codeOk at h
  simp only [Bool.and_eq_true, decide_eq_true_eq] at h
  exact h.1
theorem codeOk_good {xs : List IInstr} (h : codeOk xs = true) (i : Nat) (hi : i < xs.length) : goodI xs[i].f0.toList xs[i].f1 xs[i].f2 xs[i].f3 xs[i].f4 = true := by
  unfold codeOk at h
  simp only [Bool.and_eq_true, List.all_eq_true] at h
  exact h.2 _ (List.getElem_mem hi)
theorem bef_both (xs : List IInstr) (hc : codeOk xs = true) (k : Nat) (hk : 30 < k) (i : Nat) (hi : i < xs.length) (L : List Int) (hL : Want L) : ∃ r, impl_liveSets.hand_bef xs i L = some r ∧ spec_cdBefore.f k xs[i].f0 xs[i].f1 xs[i].f2 xs[i].f3 xs[i].f4 L = some r ∧ Want r := by
  unfold impl_liveSets.hand_bef
  rw [rdI xs i hi]
  exact before_both k 1000 hk (by omega) _ _ _ _ _ (codeOk_good hc i hi) L hL
theorem sets_ok (xs : List IInstr) (hc : codeOk xs = true) (out : List Int) (hw : Want out) : impl_liveSets.hand_ok xs out := by
  have := codeOk_len hc
  have := want_len hw
  refine ⟨by omega, by omega, hw, fun i hi L hL => ?_⟩
  obtain ⟨r, h1, _, h3⟩ := bef_both xs hc 31 (by omega) i hi L hL
  exact ⟨r, h1, h3⟩
theorem at_want (xs : List IInstr) (hc : codeOk xs = true) (out : List Int) (hw : Want out) : ∀ m, m ≤ xs.length → Want (impl_liveSets.hand_at xs out m) := by
  intro m
  induction m with
  | zero => exact fun _ => hw
  | succ m ih =>
    intro hm
    obtain ⟨r, h1, _, h3⟩ := bef_both xs hc 31 (by omega) (xs.length - 1 - m) (by omega) _ (ih (by omega))
    show Want ((impl_liveSets.hand_bef xs (xs.length - 1 - m) (impl_liveSets.hand_at xs out m)).getD [])
    rw [h1]
    exact h3
/-- The sets before each instruction, and behind the last one. -/
def setsL (xs : List IInstr) (out : List Int) (m : Nat) : List (List Int) := (List.range (m + 1)).map fun j => impl_liveSets.hand_at xs out (m - j)
theorem setsL_succ (xs : List IInstr) (out : List Int) (m : Nat) : setsL xs out (m + 1) = impl_liveSets.hand_at xs out (m + 1) :: setsL xs out m := by
  unfold setsL
  rw [List.range_succ_eq_map, List.map_cons, List.map_map]
  rw [Nat.sub_zero]
  congr 1
  apply List.map_congr_left
  intro j hj
  show impl_liveSets.hand_at xs out (m + 1 - (j + 1)) = _
  congr 1
  omega
theorem impl_sets (k : Nat) (xs : List IInstr) (hc : codeOk xs = true) (out : List Int) (hw : Want out) : impl_liveSets.f k xs out = some (setsL xs out xs.length) := by
  unfold impl_liveSets.f
  rw [if_pos (sets_ok xs hc out hw)]
  rfl
theorem rdSets (l : List (List Int)) (a : List Int) : rd_L5 (a :: l) 0 = a := rfl
theorem setsL_head (xs : List IInstr) (out : List Int) (m : Nat) : ∃ l, setsL xs out m = impl_liveSets.hand_at xs out m :: l := by
  cases m with
  | zero => exact ⟨[], rfl⟩
  | succ m => exact ⟨_, setsL_succ xs out m⟩
theorem spec_loop (xs : List IInstr) (hc : codeOk xs = true) (out : List Int) (hw : Want out) (d : Nat) : ∀ (k m : Nat), m + d = xs.length → d + 40 < k → spec_cdSets.l0 k xs (setsL xs out m) ((xs.length : Int) - 1 - (m : Int)) = some (setsL xs out xs.length) := by
  have hl := codeOk_len hc
  induction d with
  | zero =>
    intro k m h hk
    obtain ⟨k, rfl⟩ : ∃ q, k = q + 1 := ⟨k - 1, by omega⟩
    simp only [spec_cdSets.l0]
    rw [if_neg (by omega), show m = xs.length by omega]
  | succ d ih =>
    intro k m h hk
    obtain ⟨k, rfl⟩ : ∃ q, k = q + 1 := ⟨k - 1, by omega⟩
    have hi : xs.length - 1 - m < xs.length := by omega
    have ei : (xs.length : Int) - 1 - (m : Int) = ((xs.length - 1 - m : Nat) : Int) := by omega
    obtain ⟨r, h1, h2, h3⟩ := bef_both xs hc k (by omega) (xs.length - 1 - m) hi _ (at_want xs hc out hw m (by omega))
    obtain ⟨l, hs⟩ := setsL_head xs out m
    have hr : impl_liveSets.hand_at xs out (m + 1) = r := by
      show (impl_liveSets.hand_bef xs (xs.length - 1 - m) (impl_liveSets.hand_at xs out m)).getD [] = r
      rw [h1]
      rfl
    have hlen : (setsL xs out m).length = m + 1 := by simp [setsL]
    simp only [spec_cdSets.l0]
    rw [ei, if_pos (by omega), if_pos (by omega), if_pos (by omega), if_pos (by rw [hlen]; omega), rdI xs _ hi, hs, rdSets, h2, Option.bind_some, Option.bind_some, ← hs, if_pos (by rw [hlen]; simp; omega)]
    rw [show wrap64 (((xs.length - 1 - m : Nat) : Int) - 1) = (xs.length : Int) - 1 - ((m + 1 : Nat) : Int) by rw [wrap64_small (by omega) (by omega)]; omega]
    have e : [r] ++ setsL xs out m = setsL xs out (m + 1) := by rw [setsL_succ, hr]; rfl
    rw [e]
    exact ih k (m + 1) (by omega) (by omega)
theorem spec_sets (k : Nat) (xs : List IInstr) (hc : codeOk xs = true) (out : List Int) (hw : Want out) (hk : xs.length + 50 < k) : spec_cdSets.f k xs out = some (setsL xs out xs.length) := by
  have hl := codeOk_len hc
  have hwl := want_len hw
  unfold spec_cdSets.f spec_l1Own.f
  rw [Option.bind_some, if_pos (by simp; omega), List.nil_append, Option.bind_some]
  have := spec_loop xs hc out hw xs.length k 0 (by omega) (by omega)
  rw [show wrap64 ((xs.length : Int) - 1) = (xs.length : Int) - 1 - ((0 : Nat) : Int) by rw [wrap64_small (by omega) (by omega)]; omega]
  exact this
end Go.Proofs.Ytecmlikhmkcdpaa.PureOps
