/- Whether an input occurs: the program's search. Plain. -/
import Derived.Test.YtlcplhcccgbmnaaQPureIsE
import Derived.Test.YtlcplhcccgbmnaaBLawsFnInputsPut
namespace Go.Proofs.Ytlcplhcccgbmnaa.PureOps
open Go.RowKit Go.Proofs.Ytlcplhcccgbmnaa.B Go.Proofs.YtlcplhcccgbmnaaW.PrintWords Go.Proofs.YtlcplhcccgbmnaaW.PrintLast Go.Proofs.YtlcplhcccgbmnaaW.PrintMore
set_option linter.unusedVariables false
set_option linter.unusedSimpArgs false
/-- A node that reads the input v. -/
def isIn (v : Int) (n : INode) : Bool := n.f0.toList == [105, 110] && n.f3 == v
theorem index_f (xs : List INode) (hok : okAll xs) (hn : xs.length ≤ 1048576) (v : Int) (d : Nat) : ∀ (k i : Nat), i + d = xs.length → d + 20 < k →
    ∃ r, impl_Node_110.l0 k xs (xs.length : Int) (i : Int) ⟨#[105, 110]⟩ 0 0 v = some r ∧ decide (r ≥ 0) = (xs.drop i).any (isIn v) := by
  induction d with
  | zero =>
    intro k i h hk
    obtain ⟨k, rfl⟩ : ∃ m, k = m + 1 := ⟨k - 1, by omega⟩
    simp only [impl_Node_110.l0]
    rw [if_neg (by omega), List.drop_eq_nil_of_le (by omega)]
    exact ⟨_, rfl, by simp⟩
  | succ d ih =>
    intro k i h hk
    obtain ⟨k, rfl⟩ : ∃ m, k = m + 1 := ⟨k - 1, by omega⟩
    have hi : i < xs.length := by omega
    have hokI := hok i hi
    simp only [impl_Node_110.l0]
    rw [if_pos (by omega), if_pos (by omega), if_pos (by omega), rdI xs i hi, List.drop_eq_getElem_cons hi, List.any_cons, wrapS hi (by omega)]
    have he : ((⟨#[105, 110]⟩ : ByteArray).toList == xs[i].f0.toList && ((0 : Int) == xs[i].f1 && ((0 : Int) == xs[i].f2 && (v == xs[i].f3)))) = isIn v xs[i] := by
      have ht : (⟨#[105, 110]⟩ : ByteArray).toList = [105, 110] := by simp [ByteArray.toList, ByteArray.toList.loop, ByteArray.size, ByteArray.get!]
      rw [ht]
      by_cases h1 : xs[i].f0.toList = [105, 110]
      · unfold nodeOk at hokI
        rw [h1, if_pos (by decide), if_pos rfl] at hokI
        simp only [Bool.and_eq_true, decide_eq_true_eq, beq_iff_eq] at hokI
        rw [Bool.eq_iff_iff]
        simp only [isIn, h1, Bool.and_eq_true, beq_iff_eq]
        constructor
        · rintro ⟨_, _, _, h⟩
          exact ⟨trivial, h.symm⟩
        · rintro ⟨_, h⟩
          exact ⟨trivial, by omega, by omega, h.symm⟩
      · rw [Bool.eq_iff_iff]
        simp only [isIn, Bool.and_eq_true, beq_iff_eq]
        exact ⟨fun h => absurd h.1.symm h1, fun h => absurd h.1 h1⟩
    rw [he]
    by_cases hc : isIn v xs[i] = true
    · rw [if_pos hc, hc]
      exact ⟨_, rfl, by simp⟩
    · rw [if_neg hc]
      obtain ⟨r, h1, h2⟩ := ih k (i + 1) (by omega) (by omega)
      exact ⟨r, h1, by rw [h2, Bool.eq_false_iff.2 hc, Bool.false_or]⟩
theorem contains_f (xs : List INode) (hok : okAll xs) (hn : xs.length ≤ 1048576) (v : Int) (k : Nat) (hk : xs.length + 20 < k) : impl_Node_57.f k xs ⟨#[105, 110]⟩ 0 0 v = some (xs.any (isIn v)) := by
  obtain ⟨r, h1, h2⟩ := index_f xs hok hn v xs.length k 0 (by omega) (by omega)
  unfold impl_Node_57.f impl_Node_110.f
  rw [show ((0 : Nat) : Int) = 0 from rfl] at h1
  rw [h1, Option.bind_some, h2, List.drop_zero]
theorem isIn_eq {n : INode} {i : Int} (hok : nodeOk n.f0.toList n.f1 n.f2 n.f3 i = true) (v : Int) : (n.f0.toList == (⟨#[105, 110]⟩ : ByteArray).toList && (n.f1 == 0 && (n.f2 == 0 && (n.f3 == v)))) = isIn v n := by
  have ht : (⟨#[105, 110]⟩ : ByteArray).toList = [105, 110] := by decide +kernel
  rw [ht]
  unfold isIn
  by_cases h1 : n.f0.toList = [105, 110]
  · unfold nodeOk at hok
    rw [h1, if_pos (by decide), if_pos rfl] at hok
    simp only [Bool.and_eq_true, beq_iff_eq] at hok
    simp [h1, hok.1.1, hok.1.2]
  · rw [show (n.f0.toList == [105, 110]) = false from beq_eq_false_iff_ne.2 h1, Bool.false_and, Bool.false_and]
end Go.Proofs.Ytlcplhcccgbmnaa.PureOps
