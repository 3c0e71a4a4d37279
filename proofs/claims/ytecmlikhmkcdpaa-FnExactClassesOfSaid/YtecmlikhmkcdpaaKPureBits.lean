/- Bits of words: facts on sixty-four numbers, each looked at. -/
import Derived.Test.YtecmlikhmkcdpaaKPureApply
namespace Go.Proofs.Ytecmlikhmkcdpaa.PureOps
open Go.RowKit Go.Proofs.YtecmlikhmkcdpaaW.PrintWords Go.Proofs.YtecmlikhmkcdpaaW.PrintLast Go.Proofs.YtecmlikhmkcdpaaW.PrintMore
set_option linter.unusedVariables false
theorem xor_self64 : ∀ m : Fin 64, Go.bits .xor .i64 (m.val : Int) (m.val : Int) = 0 := by decide +kernel
theorem or_zero64 : ∀ m : Fin 64, Go.bits .or .i64 (m.val : Int) 0 = (m.val : Int) := by decide +kernel
theorem or_word64 : ∀ m n : Fin 64, 0 ≤ Go.bits .or .i64 (m.val : Int) (n.val : Int) ∧ Go.bits .or .i64 (m.val : Int) (n.val : Int) ≤ 63 := by decide +kernel
theorem xor_word64 : ∀ m n : Fin 64, 0 ≤ Go.bits .xor .i64 (m.val : Int) (n.val : Int) ∧ Go.bits .xor .i64 (m.val : Int) (n.val : Int) ≤ 63 := by decide +kernel
theorem as_fin {x : Int} (h : 0 ≤ x ∧ x ≤ 63) : ∃ m : Fin 64, x = (m.val : Int) := ⟨⟨x.toNat, by omega⟩, by show x = (x.toNat : Int); omega⟩
theorem xor_self {x : Int} (h : 0 ≤ x ∧ x ≤ 63) : Go.bits .xor .i64 x x = 0 := by obtain ⟨m, rfl⟩ := as_fin h; exact xor_self64 m
theorem or_zero {x : Int} (h : 0 ≤ x ∧ x ≤ 63) : Go.bits .or .i64 x 0 = x := by obtain ⟨m, rfl⟩ := as_fin h; exact or_zero64 m
theorem or_word {x y : Int} (h : 0 ≤ x ∧ x ≤ 63) (h' : 0 ≤ y ∧ y ≤ 63) : 0 ≤ Go.bits .or .i64 x y ∧ Go.bits .or .i64 x y ≤ 63 := by
  obtain ⟨m, rfl⟩ := as_fin h; obtain ⟨n, rfl⟩ := as_fin h'; exact or_word64 m n
theorem xor_word {x y : Int} (h : 0 ≤ x ∧ x ≤ 63) (h' : 0 ≤ y ∧ y ≤ 63) : 0 ≤ Go.bits .xor .i64 x y ∧ Go.bits .xor .i64 x y ≤ 63 := by
  obtain ⟨m, rfl⟩ := as_fin h; obtain ⟨n, rfl⟩ := as_fin h'; exact xor_word64 m n
end Go.Proofs.Ytecmlikhmkcdpaa.PureOps
