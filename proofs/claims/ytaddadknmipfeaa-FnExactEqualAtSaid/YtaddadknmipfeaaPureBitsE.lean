/- The bits in which two tables differ: one word of both sides. Plain. -/
import Derived.Test.YtaddadknmipfeaaPureDiff
import Derived.Test.YtaddadknmipfeaaFSpecEqBits
import Derived.Test.YtaddadknmipfeaaFSpecEqBits
namespace Go.Proofs.Ytaddadknmipfeaa.PureOps
open Go.RowKit Go.Proofs.Ytaddadknmipfeaa.F Go.Proofs.YtaddadknmipfeaaW.PrintWords Go.Proofs.YtaddadknmipfeaaW.PrintLast Go.Proofs.YtaddadknmipfeaaW.PrintMore Go.Proofs.Ytaddadknmipfeaa.MKinds
set_option linter.unusedVariables false
set_option linter.unusedSimpArgs false
def orBit (A B : List Int) (m p : Int) : Int := Go.bits .or .i64 m (Go.bits .xor .i64 (rd A p) (rd B p))
/-- All bits at some places. -/
def bitsAt (A B : List Int) (m : Int) (ps : List Int) : Int := ps.foldl (orBit A B) m
theorem orBit_word {A B : List Int} (hA : words A) (hB : words B) {m : Int} (h : 0 ≤ m ∧ m ≤ 63) (p : Int) : 0 ≤ orBit A B m p ∧ orBit A B m p ≤ 63 :=
  or_word h (xor_word (rd_word hA p) (rd_word hB p))
theorem bits_s (A B : List Int) (hA : A.length ≤ 4096) (hB : A.length = B.length) (wA : words A) (wB : words B) (d : Nat) : ∀ (k i : Nat) (m : Int), i + d = A.length → d < k → 0 ≤ m ∧ m ≤ 63 →
    spec_eqBits.l0 k B m A (A.length : Int) (i : Int) = some (bitsAt A B m (diffFrom A B i)) := by
  induction d with
  | zero =>
    intro k i m h hk hm
    obtain ⟨k, rfl⟩ : ∃ m, k = m + 1 := ⟨k - 1, by omega⟩
    obtain rfl : i = A.length := by omega
    simp only [spec_eqBits.l0]
    rw [if_neg (by omega), diff_end]
    rfl
  | succ d ih =>
    intro k i m h hk hm
    obtain ⟨k, rfl⟩ : ∃ m, k = m + 1 := ⟨k - 1, by omega⟩
    have hi : i < A.length := by omega
    simp only [spec_eqBits.l0]
    rw [if_pos (by omega), if_pos (by omega), if_pos (by omega), if_pos (by omega), wrapS hi (by omega)]
    by_cases e : rd B (i : Int) = rd A (i : Int)
    · rw [e, xor_self (rd_word wA _), or_zero hm, ih k (i + 1) m (by omega) (by omega) hm, diff_same A B hi e]
    · have hw := orBit_word wA wB hm (i : Int)
      rw [diff_other A B hi e]
      exact ih k (i + 1) _ (by omega) (by omega) hw
theorem bits_i (A B : List Int) (b : Bool) (D : List Int) (hD : ∀ p ∈ D, 0 ≤ p ∧ p < A.length) (hB : A.length = B.length) (hl : D.length ≤ 4096) (d : Nat) : ∀ (k i : Nat) (m : Int), i + d = D.length → d < k →
    impl_DifferentBits.l0 k A B b m D (D.length : Int) (i : Int) = some (bitsAt A B m (D.drop i), b) := by
  induction d with
  | zero =>
    intro k i m h hk
    obtain ⟨k, rfl⟩ : ∃ m, k = m + 1 := ⟨k - 1, by omega⟩
    simp only [impl_DifferentBits.l0]
    rw [if_neg (by omega), List.drop_eq_nil_of_le (by omega)]
    rfl
  | succ d ih =>
    intro k i m h hk
    obtain ⟨k, rfl⟩ : ∃ m, k = m + 1 := ⟨k - 1, by omega⟩
    have hi : i < D.length := by omega
    obtain ⟨p0, p1⟩ := hD D[i] (List.getElem_mem hi)
    simp only [impl_DifferentBits.l0]
    rw [if_pos (by omega), if_pos (by omega), if_pos (by omega), rd_get D i hi, if_pos p0, if_pos p1, if_pos (by omega), wrapS hi (by omega), List.drop_eq_getElem_cons hi]
    exact ih k (i + 1) _ (by omega) (by omega)
/-- The word with all bits in which the values of two expressions differ. -/
def bitsE (xs ys : List INode) : Int := bitsAt (tableL xs) (tableL ys) 0 (diffFrom (tableL xs) (tableL ys) 0)
theorem eqBits_f (k : Nat) (xs ys : List INode) (hE : isE xs = true) (hF : isE ys = true) (hk : 4200 < k) : spec_eqBits.f k (tableL xs) (tableL ys) = some (bitsE xs ys) := by
  have hA := tableL_length xs
  have hB := tableL_length ys
  unfold spec_eqBits.f
  exact bits_s (tableL xs) (tableL ys) (by omega) (by omega) (tableL_words xs hE) (tableL_words ys hF) (tableL xs).length k 0 0 (by omega) (by omega) ⟨by omega, by omega⟩
theorem differentBits_f (k : Nat) (xs ys : List INode) (hk : 4 * xs.length + 4 * ys.length + 5930 < k) (hn : xs.length ≤ 1048576) (hm : ys.length ≤ 1048576) :
    impl_DifferentBits.f k xs ys = some (if isE xs = true ∧ isE ys = true then (bitsE xs ys, true) else (0, false)) := by
  unfold impl_DifferentBits.f
  rw [compared_f k xs ys (by omega) hn hm, Option.bind_some]
  have none_ : ∀ b, impl_DifferentBits.l0 k [] [] b 0 (diffFrom [] [] 0) ((diffFrom [] [] 0).length : Int) 0 = some (0, b) := fun b =>
    bits_i [] [] b (diffFrom [] [] 0) (diff_mem [] [] 0) rfl (by simp [diffFrom]) 0 k 0 0 (by simp [diffFrom]) (by omega)
  have h0 := differences_f k [] [] (by simp) rfl (by omega)
  by_cases h : isE xs = true ∧ isE ys = true
  · have hA := tableL_length xs
    have hB := tableL_length ys
    rw [if_pos h, if_pos h]
    dsimp only
    rw [differences_f k (tableL xs) (tableL ys) (by omega) (by omega) (by omega), Option.bind_some]
    have hl := diff_len (tableL xs) (tableL ys) 0
    have hl' : (diffFrom (tableL xs) (tableL ys) 0).length ≤ 4096 := by omega
    exact bits_i (tableL xs) (tableL ys) true (diffFrom (tableL xs) (tableL ys) 0) (diff_mem (tableL xs) (tableL ys) 0) (by omega) hl' (diffFrom (tableL xs) (tableL ys) 0).length k 0 0 (by omega) (by omega)
  · rw [if_neg h, if_neg h]
    dsimp only
    rw [h0, Option.bind_some]
    exact none_ false
end Go.Proofs.Ytaddadknmipfeaa.PureOps
