/- A node whose operands have other places: one answer of both sides. Plain. -/
import Derived.Test.YtlcplhcccgbmnaaUPureIsE
import Derived.Test.YtlcplhcccgbmnaaDAll
namespace Go.Proofs.Ytlcplhcccgbmnaa.PureOps
open Go.RowKit Go.Proofs.Ytlcplhcccgbmnaa.D Go.Proofs.YtlcplhcccgbmnaaW.PrintWords Go.Proofs.YtlcplhcccgbmnaaW.PrintLast Go.Proofs.YtlcplhcccgbmnaaW.PrintMore
set_option linter.unusedVariables false
set_option linter.unusedSimpArgs false
/-- A node with its operands' new places. -/
def moved (n : INode) (P : List Int) : INode :=
 if one n.f0.toList then ⟨n.f0, rd P n.f1, 0, n.f3⟩ else if two n.f0.toList then ⟨n.f0, rd P n.f1, rd P n.f2, n.f3⟩ else ⟨n.f0, 0, 0, n.f3⟩
def tup (n : INode) : ByteArray × Int × Int × Int := (n.f0, n.f1, n.f2, n.f3)
theorem moved_s (k : Nat) (hk : 10 < k) (n : INode) (i : Int) (hok : nodeOk n.f0.toList n.f1 n.f2 n.f3 i = true) (P : List Int) (hP : i ≤ P.length) :
  spec_exMoved.f k n.f0 n.f1 n.f2 n.f3 P = some (tup (moved n P)) := by
 unfold spec_exMoved.f moved
 rw [exParts_f k hk, Option.bind_some]
 by_cases h1 : one n.f0.toList = true
 ·have hp := parts_lt hok n.f1 (by unfold parts; rw [if_pos h1]; simp)
  have e : parts n.f0.toList n.f1 n.f2 = [n.f1] := by unfold parts; rw [if_pos h1]
  rw [e, if_pos h1, if_pos (by simp), if_pos hp.1, if_pos (by omega), Option.bind_some, if_neg (by simp)]
  rfl
 ·by_cases h2 : two n.f0.toList = true
  ·have e : parts n.f0.toList n.f1 n.f2 = [n.f1, n.f2] := by unfold parts; rw [if_neg h1, if_pos h2]
   have hp := parts_lt hok n.f1 (by rw [e]; simp)
   have hq := parts_lt hok n.f2 (by rw [e]; simp)
   rw [e, if_neg h1, if_pos h2, if_pos (by simp), if_pos hp.1, if_pos (by omega), Option.bind_some, if_pos (by simp), if_pos hq.1, if_pos (by omega)]
   rfl
  ·have e : parts n.f0.toList n.f1 n.f2 = [] := by unfold parts; rw [if_neg h1, if_neg h2]
   rw [e, if_neg h1, if_neg h2, if_neg (by simp), Option.bind_some, if_neg (by simp)]
   rfl
theorem moved_i (k : Nat) (hk : 12 < k) (n : INode) (i : Int) (hok : nodeOk n.f0.toList n.f1 n.f2 n.f3 i = true) (P : List Int) (hP : i ≤ P.length) :
  impl_Node_renamed.f k n.f0 n.f1 n.f2 n.f3 P = some (tup (moved n P)) := by
 unfold impl_Node_renamed.f moved
 rw [operands_f k hk, Option.bind_some]
 by_cases h1 : one n.f0.toList = true
 ·have hp := parts_lt hok n.f1 (by unfold parts; rw [if_pos h1]; simp)
  have hz : n.f2 = 0 := by
   unfold nodeOk at hok
   rw [if_neg (by rw [(one_not h1).1]; decide), if_pos h1] at hok
   simp only [Bool.and_eq_true, beq_iff_eq] at hok
   exact hok.1.2
  rw [ops_one.2 h1, if_pos h1, if_pos (by decide), if_pos hp.1, if_pos (by omega), if_neg (by decide), hz]
  rfl
 ·by_cases h2 : two n.f0.toList = true
  ·have hp := parts_lt hok n.f1 (by unfold parts; rw [if_neg h1, if_pos h2]; simp)
   have hq := parts_lt hok n.f2 (by unfold parts; rw [if_neg h1, if_pos h2]; simp)
   rw [ops_two.2 h2, if_neg h1, if_pos h2, if_pos (by decide), if_pos hp.1, if_pos (by omega), if_pos (by decide), if_pos hq.1, if_pos (by omega)]
   rfl
  ·have ho := (ops_lt n.f0.toList).2 ⟨by simpa using h1, by simpa using h2⟩
   have hz : n.f1 = 0 ∧ n.f2 = 0 := by
    unfold nodeOk at hok
    by_cases hl : leaf n.f0.toList = true
    ·rw [if_pos hl] at hok
     simp only [Bool.and_eq_true, beq_iff_eq] at hok
     exact ⟨hok.1.1, hok.1.2⟩
    ·rw [if_neg hl, if_neg h1, Bool.eq_false_iff.2 h2] at hok
     simp at hok
   rw [if_neg h1, if_neg h2, if_neg (by omega), if_neg (by omega), hz.1, hz.2]
   rfl
theorem moved_app (n : INode) (i : Int) (hok : nodeOk n.f0.toList n.f1 n.f2 n.f3 i = true) (P R : List Int) (hP : i ≤ P.length) : moved n (P ++ R) = moved n P := by
 have rdA : ∀ p : Int, 0 ≤ p → p < P.length → rd (P ++ R) p = rd P p := fun p h0 h => by
  unfold rd
  rw [List.getD_eq_getElem?_getD, List.getD_eq_getElem?_getD, List.getElem?_append_left (by omega)]
 unfold moved
 by_cases h1 : one n.f0.toList = true
 ·have hp := parts_lt hok n.f1 (by unfold parts; rw [if_pos h1]; simp)
  rw [if_pos h1, if_pos h1, rdA _ hp.1 (by omega)]
 ·rw [if_neg h1, if_neg h1]
  by_cases h2 : two n.f0.toList = true
  ·have hp := parts_lt hok n.f1 (by unfold parts; rw [if_neg h1, if_pos h2]; simp)
   have hq := parts_lt hok n.f2 (by unfold parts; rw [if_neg h1, if_pos h2]; simp)
   rw [if_pos h2, if_pos h2, rdA _ hp.1 (by omega), rdA _ hq.1 (by omega)]
  ·rw [if_neg h2, if_neg h2]
end Go.Proofs.Ytlcplhcccgbmnaa.PureOps
