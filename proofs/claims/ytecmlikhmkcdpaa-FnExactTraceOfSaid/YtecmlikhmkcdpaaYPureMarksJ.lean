/- Marks laid into lists of instructions, as the laws do. Plain. -/
import Derived.Test.YtecmlikhmkcdpaaYPureCode
import Derived.Test.YtecmlikhmkcdpaaGImplRun
namespace Go.Proofs.Ytecmlikhmkcdpaa.PureOps
open Go.RowKit Go.Proofs.Ytecmlikhmkcdpaa.G Go.Proofs.YtecmlikhmkcdpaaW.PrintWords Go.Proofs.YtecmlikhmkcdpaaW.PrintLast Go.Proofs.YtecmlikhmkcdpaaW.PrintMore
set_option linter.unusedVariables false
set_option linter.unusedSimpArgs false
theorem nums1_size (a : Int) : (strOfNums [a]).size = 1 := by rfl
theorem markText_same (d : Nat) : ∀ (v : Int) (t : ByteArray), 0 ≤ v → v < 10 ^ d → v ≤ 9223372036854775807 → t.size + d ≤ 1000 → ∃ r, ∀ k, d < k → laws_markText.l0 k v t = some r := by
  induction d with
  | zero =>
    intro v t h0 h1 hm ht
    have hv : ¬ v > 0 := by simp at h1; omega
    refine ⟨(⟨#[109]⟩ : ByteArray) ++ t, fun k hk => ?_⟩
    obtain ⟨k, rfl⟩ : ∃ m, k = m + 1 := ⟨k - 1, by omega⟩
    simp only [laws_markText.l0]
    rw [if_neg hv, if_pos (by omega)]
  | succ d ih =>
    intro v t h0 h1 hm ht
    by_cases h : v > 0
    · have hv : Int.tdiv v 10 = v / 10 := Int.tdiv_eq_ediv_of_nonneg h0
      have hd : v / 10 < 10 ^ d := by
        have : (10 : Int) ^ (d + 1) = 10 * 10 ^ d := by rw [Int.pow_succ, Int.mul_comm]
        omega
      have hs : wrap64 (Int.tdiv v 10) = v / 10 := by
        rw [hv]
        exact wrap64_small (by omega) (by omega)
      obtain ⟨r, hr⟩ := ih (v / 10) (strOfNums [(wrap64 (48 + (Int.tmod v 10))) % 256] ++ t) (by omega) hd (by omega) (by simp [ByteArray.size_append, nums1_size]; omega)
      refine ⟨r, fun k hk => ?_⟩
      obtain ⟨k, rfl⟩ : ∃ m, k = m + 1 := ⟨k - 1, by omega⟩
      simp only [laws_markText.l0]
      rw [if_pos h, Option.bind_some, nums1_size, if_pos (by omega), hs]
      exact hr k (by omega)
    · refine ⟨(⟨#[109]⟩ : ByteArray) ++ t, fun k hk => ?_⟩
      obtain ⟨k, rfl⟩ : ∃ m, k = m + 1 := ⟨k - 1, by omega⟩
      simp only [laws_markText.l0]
      rw [if_neg h, if_pos (by omega)]
theorem markText_all (v : Int) (h : v ≤ 1000000000000) : ∃ r, ∀ k, 20 < k → laws_markText.f k v = some r := by
  unfold laws_markText.f
  by_cases h0 : v ≤ 0
  · exact ⟨_, fun k hk => by rw [if_pos h0]⟩
  · obtain ⟨r, hr⟩ := markText_same 15 v ⟨#[]⟩ (by omega) (by omega) (by omega) (by decide)
    exact ⟨r, fun k hk => by rw [if_neg h0]; exact hr k (by omega)⟩
open Classical in
/-- The text of a mark. -/
noncomputable def mt (v : Int) : ByteArray := if h : v ≤ 1000000000000 then Classical.choose (markText_all v h) else ByteArray.empty
theorem mt_f (v : Int) (h : v ≤ 1000000000000) (k : Nat) (hk : 20 < k) : laws_markText.f k v = some (mt v) := by
  unfold mt
  rw [dif_pos h]
  exact Classical.choose_spec (markText_all v h) k hk
theorem rdI_set (l : List IInstr) (i : Nat) (v : IInstr) (h : i < l.length) : rd_T67 (l.set i v) (i : Int) = v := by
  rw [rdI _ i (by simpa using h)]
  simp
noncomputable def markI (j : Nat) : IInstr := ⟨mt (1 + 5 * (j : Int)), 1 + 5 * (j : Int) + 1, 1 + 5 * (j : Int) + 1 + 1, 1 + 5 * (j : Int) + 1 + 1 + 1, 1 + 5 * (j : Int) + 1 + 1 + 1 + 1⟩
theorem markInstrS_f (k : Nat) (xs : List IInstr) (hn : xs.length ≤ 1048576) (hk : xs.length + 30 < k) : ∃ ys, laws_markInstrS.f k xs 1 = some (1 + 5 * (xs.length : Int), ys) ∧ ys.length = xs.length ∧ ∀ j, j < xs.length → ys[j]? = some (markI j) := by
  unfold laws_markInstrS.f
  obtain ⟨r, hr, h1, h2, h3⟩ := some_loop (fun k (s : List IInstr × Int) i => laws_markInstrS.l0 k s.1 s.2 i) xs.length (by omega) 25 (fun i s => s.1.length = xs.length ∧ s.2 = 1 + 5 * (i : Int) ∧ ∀ j, j < i → s.1[j]? = some (markI j)) (fun r => r.1 = 1 + 5 * (xs.length : Int) ∧ r.2.length = xs.length ∧ ∀ j, j < xs.length → r.2[j]? = some (markI j))
    (fun k i s hk hi hI => by
      obtain ⟨l, v⟩ := s
      obtain ⟨hl, hv, hj⟩ := hI
      have hl : l.length = xs.length := hl
      have hv : v = 1 + 5 * (i : Int) := hv
      have hil : i < l.length := by omega
      refine .inr ⟨(l.set i (markI i), v + 1 + 1 + 1 + 1 + 1), ?_, by simp [hl], by show v + 1 + 1 + 1 + 1 + 1 = 1 + 5 * ((i + 1 : Nat) : Int); omega, fun j hj' => ?_⟩
      · show laws_markInstrS.l0 (k + 1) l v i = laws_markInstrS.l0 k (l.set i (markI i)) (v + 1 + 1 + 1 + 1 + 1) (wrap64 ((i : Int) + 1))
        simp only [laws_markInstrS.l0]
        rw [if_pos (by omega), mt_f v (by omega) k (by omega), Option.bind_some, if_pos (by omega)]
        simp only [Option.bind_some, Int.toNat_natCast]
        rw [wrap64_small (n := v + 1) (by omega) (by omega), wrap64_small (n := v + 1 + 1) (by omega) (by omega), wrap64_small (n := v + 1 + 1 + 1) (by omega) (by omega), wrap64_small (n := v + 1 + 1 + 1 + 1) (by omega) (by omega), wrap64_small (n := v + 1 + 1 + 1 + 1 + 1) (by omega) (by omega)]
        simp only [rdI_set l i _ hil, List.set_set]
        rw [show markI i = ⟨mt v, v + 1, v + 1 + 1, v + 1 + 1 + 1, v + 1 + 1 + 1 + 1⟩ by rw [hv]; rfl]
      · by_cases e : j = i
        · subst e
          show (l.set j (markI j))[j]? = _
          rw [List.getElem?_set_self hil]
        · show (l.set i (markI i))[j]? = _
          rw [List.getElem?_set_ne (fun h => e h.symm)]
          exact hj j (by omega))
    (fun k s _ hI => ⟨(s.2, s.1), by simp only [laws_markInstrS.l0]; rw [if_neg (by omega)], hI.2.1, hI.1, hI.2.2⟩) xs.length k 0 (xs, 1) (by omega) (by omega) ⟨rfl, rfl, fun j hj => by omega⟩
  exact ⟨r.2, by rw [← h1]; exact hr, h2, h3⟩
end Go.Proofs.Ytecmlikhmkcdpaa.PureOps
