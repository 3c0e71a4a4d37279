/- Lists of whole numbers: copies, comparisons, marks; lists of words. Plain. -/
import Derived.Test.YthnckplfnmkmpaaLoops
import Derived.Test.YthnckplfnmkmpaaFSpecReadsOf
import Derived.Test.YthnckplfnmkmpaaFSpecReadsOf
import Derived.Test.YthnckplfnmkmpaaFSpecReadsOf
import Derived.Test.YthnckplfnmkmpaaFLawsMarkText
namespace Go.Proofs.Ythnckplfnmkmpaa.PureCd
open Go.RowKit Go.Proofs.Ythnckplfnmkmpaa.PureOps Go.Proofs.Ythnckplfnmkmpaa.F Go.Proofs.YthnckplfnmkmpaaW.PrintWords Go.Proofs.YthnckplfnmkmpaaW.PrintLast Go.Proofs.YthnckplfnmkmpaaW.PrintMore
set_option linter.unusedVariables false
set_option linter.unusedSimpArgs false
theorem rd_get (xs : List Int) (i : Nat) (h : i < xs.length) : rd xs (i : Int) = xs[i] := by
  simp [rd, List.getD_eq_getElem?_getD, h]
def words (u : List Int) : Prop := ∀ x ∈ u, 0 ≤ x ∧ x ≤ 63
theorem rd_word {u : List Int} (h : words u) (p : Int) : 0 ≤ rd u p ∧ rd u p ≤ 63 := by
  unfold rd
  rw [List.getD_eq_getElem?_getD]
  by_cases hp : p.toNat < u.length
  · rw [List.getElem?_eq_getElem hp]
    exact h _ (List.getElem_mem hp)
  · rw [List.getElem?_eq_none (by omega)]
    exact ⟨by simp, by simp⟩
theorem eqIntS_f (k : Nat) (xs : List Int) (hn : xs.length ≤ 1048576) (hk : xs.length < k) : laws_eqIntS.f k xs xs = some true := by
  unfold laws_eqIntS.f
  rw [if_pos rfl]
  obtain ⟨r, hr, hq⟩ := some_loop (fun k (_ : Unit) i => laws_eqIntS.l0 k xs xs i) xs.length (by omega) 0 (fun _ _ => True) (fun r => r = true)
    (fun k i s _ hi _ => .inr ⟨(), by
      simp only [laws_eqIntS.l0]
      rw [if_pos (by omega), if_pos (by omega), if_pos (by omega), if_pos trivial], trivial⟩)
    (fun k s _ _ => ⟨true, by simp only [laws_eqIntS.l0]; rw [if_neg (by omega)], rfl⟩) xs.length k 0 () (by omega) (by omega) trivial
  rw [← hq]
  exact hr
theorem markIntS_f (k : Nat) (xs : List Int) (hn : xs.length ≤ 1048576) (hk : xs.length < k) : ∃ ys, laws_markIntS.f k xs 1 = some (1 + (xs.length : Int), ys) ∧ ys.length = xs.length ∧ ∀ j, j < xs.length → ys[j]? = some (1 + (j : Int)) := by
  unfold laws_markIntS.f
  obtain ⟨r, hr, h1, h2, h3⟩ := some_loop (fun k (s : List Int × Int) i => laws_markIntS.l0 k s.1 s.2 i) xs.length (by omega) 0 (fun i s => s.1.length = xs.length ∧ s.2 = 1 + (i : Int) ∧ ∀ j, j < i → s.1[j]? = some (1 + (j : Int))) (fun r => r.1 = 1 + (xs.length : Int) ∧ r.2.length = xs.length ∧ ∀ j, j < xs.length → r.2[j]? = some (1 + (j : Int)))
    (fun k i s _ hi hI => .inr ⟨(s.1.set i s.2, s.2 + 1), by
      simp only [laws_markIntS.l0]
      rw [if_pos (by omega), if_pos (by omega), Int.toNat_natCast, wrap64_small (n := s.2 + 1) (by omega) (by omega)], by simp [hI.1], by omega, fun j hj => by
      by_cases e : j = i
      · subst e
        show (s.1.set j s.2)[j]? = _
        rw [List.getElem?_set_self (by omega), hI.2.1]
      · show (s.1.set i s.2)[j]? = _
        rw [List.getElem?_set_ne (fun h => e h.symm)]
        exact hI.2.2 j (by omega)⟩)
    (fun k s _ hI => ⟨(s.2, s.1), by simp only [laws_markIntS.l0]; rw [if_neg (by omega)], hI.2.1, hI.1, hI.2.2⟩) xs.length k 0 (xs, 1) (by omega) (by omega) ⟨rfl, rfl, fun j hj => by omega⟩
  exact ⟨r.2, by rw [← h1]; exact hr, h2, h3⟩
theorem heldIntS_f (k : Nat) (ys : List Int) (hn : ys.length ≤ 1048576) (hk : ys.length < k) (hy : ∀ j, j < ys.length → ys[j]? = some (1 + (j : Int))) : laws_heldIntS.f k ys 1 = some (1 + (ys.length : Int)) := by
  unfold laws_heldIntS.f
  obtain ⟨r, hr, hq⟩ := some_loop (fun k (s : Int) i => laws_heldIntS.l0 k ys s i) ys.length (by omega) 0 (fun i s => s = 1 + (i : Int)) (fun r => r = 1 + (ys.length : Int))
    (fun k i s _ hi hI => .inr ⟨s + 1, by
      have h := hy i hi
      rw [List.getElem?_eq_getElem hi] at h
      simp only [laws_heldIntS.l0]
      rw [if_pos (by omega), if_pos (by omega), rd_get ys i hi, if_pos (by rw [Option.some.inj h, hI]), wrap64_small (n := s + 1) (by omega) (by omega)], by omega⟩)
    (fun k s _ hI => ⟨s, by simp only [laws_heldIntS.l0]; rw [if_neg (by omega)], hI⟩) ys.length k 0 1 (by omega) (by omega) rfl
  rw [← hq]; exact hr
theorem nums_size (a : Int) : (strOfNums [a]).size = 1 := by rfl
theorem markText_loop (d : Nat) : ∀ (k : Nat) (v : Int) (t : ByteArray), 0 ≤ v → v < 10 ^ d → v ≤ 9223372036854775807 → d < k → t.size + d ≤ 1000 → ∃ r, laws_markText.l0 k v t = some r := by
  induction d with
  | zero =>
    intro k v t h0 h1 hm hk ht
    obtain ⟨k, rfl⟩ : ∃ m, k = m + 1 := ⟨k - 1, by omega⟩
    simp only [laws_markText.l0]
    rw [if_neg (by simp at h1; omega), if_pos (by omega)]
    exact ⟨_, rfl⟩
  | succ d ih =>
    intro k v t h0 h1 hm hk ht
    obtain ⟨k, rfl⟩ : ∃ m, k = m + 1 := ⟨k - 1, by omega⟩
    simp only [laws_markText.l0]
    by_cases h : v > 0
    · rw [if_pos h, Option.bind_some, nums_size, if_pos (by omega)]
      have hv : Int.tdiv v 10 = v / 10 := Int.tdiv_eq_ediv_of_nonneg h0
      have hd : v / 10 < 10 ^ d := by
        have : (10 : Int) ^ (d + 1) = 10 * 10 ^ d := by rw [Int.pow_succ, Int.mul_comm]
        omega
      have hs : wrap64 (Int.tdiv v 10) = v / 10 := by
        rw [hv]
        exact wrap64_small (by omega) (by omega)
      rw [hs]
      exact ih k (v / 10) _ (by omega) hd (by omega) (by omega) (by simp [ByteArray.size_append, nums_size]; omega)
    · rw [if_neg h, if_pos (by omega)]
      exact ⟨_, rfl⟩
theorem markText_f (k : Nat) (hk : 20 < k) (v : Int) (h : v ≤ 1000000000000) : ∃ r, laws_markText.f k v = some r := by
  unfold laws_markText.f
  by_cases h0 : v ≤ 0
  · exact ⟨_, by rw [if_pos h0]⟩
  · rw [if_neg h0]
    exact markText_loop 15 k v ⟨#[]⟩ (by omega) (by omega) (by omega) (by omega) (by decide)
/-- Marks from any number on. -/
theorem markIntS_g (k : Nat) (xs : List Int) (s0 : Int) (hs : 0 ≤ s0) (hs' : s0 ≤ 1000000000000) (hn : xs.length ≤ 1048576) (hk : xs.length < k) : ∃ r, laws_markIntS.f k xs s0 = some r ∧ 0 ≤ r.1 := by
  unfold laws_markIntS.f
  exact some_loop (fun k (s : List Int × Int) i => laws_markIntS.l0 k s.1 s.2 i) xs.length (by omega) 0 (fun i s => s.1.length = xs.length ∧ s.2 = s0 + (i : Int)) (fun r => 0 ≤ r.1)
    (fun k i s _ hi hI => .inr ⟨(s.1.set i s.2, s.2 + 1), by
      simp only [laws_markIntS.l0]
      rw [if_pos (by omega), if_pos (by omega), Int.toNat_natCast, wrap64_small (n := s.2 + 1) (by omega) (by omega)], by simp [hI.1], by show s.2 + 1 = s0 + ((i + 1 : Nat) : Int); omega⟩)
    (fun k s _ hI => ⟨(s.2, s.1), by simp only [laws_markIntS.l0]; rw [if_neg (by omega)], by have := hI.2; show 0 ≤ s.2; omega⟩) xs.length k 0 (xs, s0) (by omega) (by omega) ⟨rfl, by simp⟩
end Go.Proofs.Ythnckplfnmkmpaa.PureCd
