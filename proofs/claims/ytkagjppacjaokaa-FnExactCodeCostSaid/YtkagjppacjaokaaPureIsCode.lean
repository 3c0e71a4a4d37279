/- IsCode of the program and of the reference agree for all arguments. -/
import Derived.Test.YtkagjppacjaokaaPureCode
import Derived.Test.YtkagjppacjaokaaMKinds
import Derived.Test.YtkagjppacjaokaaFSpecIsCode
namespace Go.Proofs.Ytkagjppacjaokaa.PureOps
open Go.RowKit Go.Proofs.Ytkagjppacjaokaa.F Go.Proofs.YtkagjppacjaokaaW.PrintWords Go.Proofs.YtkagjppacjaokaaW.PrintLast Go.Proofs.YtkagjppacjaokaaW.PrintMore Go.Proofs.Ytkagjppacjaokaa.MKinds
set_option linter.unusedVariables false
theorem isCode_true (xs : List LInstr) (hn : xs.length ≤ 9223372036854775807) (hs : ∀ x ∈ xs, x.f0.size ≤ 9223372036854775807) : laws_FnExactIsCode.f (xs.length + 100) xs = some true := by
  unfold laws_FnExactIsCode.f
  obtain ⟨r, hr, _, hl⟩ := szInstrS_f (xs.length + 100) xs 1048576 (by omega) (by omega) hn hs (by omega)
  rw [hr, Option.bind_some]
  by_cases h : r < 0
  · rw [if_pos h]
  · rw [if_neg h]
    have hn2 : xs.length ≤ 1048576 := by have := hl (by omega); omega
    rw [toInstrS_f (xs.length + 100) xs hn2 (by omega)]
    simp only [Option.bind_some, spec_IsCode.f]
    rw [cdCode_f (xs.length + 100) (xs.map convI) (by simpa using hn2) (by simp), isCode_f (xs.length + 100) (xs.map convI) (by simpa using hn2) (by simp), eqInstrS_f (xs.length + 100) (xs.map convI) (by simpa using hn2) (by simp)]
    simp
theorem instrs_ok {xs : List LInstr} (h : ∀ x ∈ xs, instrSOk x) : ∀ x ∈ xs, x.f0.size ≤ 9223372036854775807 := fun x hx => by
  have := (h x hx).1
  unfold maxLen at this
  exact this
theorem len_ok {n : Nat} (h : n ≤ maxLen) : n ≤ 9223372036854775807 := by unfold maxLen at h; exact h
theorem isCode_walk (A : Option Addr) (c : Nat) (xs : List LInstr) (hl : xs.length ≤ c) (W : World) (hr : Kd.C k23 W A xs.length xs) (hm : xs.length ≤ maxLen) (ho : ∀ x ∈ xs, instrSOk x) :
    Calls Try.prog 5 #[.slice A xs.length c] W fun e w' => e = .returned (.bool true) ∧ Below W.heap.size W w' :=
  laws_FnExactIsCode.calls (xs.length + 100) A c xs true W hr hl (isCode_true xs (len_ok hm) (instrs_ok ho)) rfl
end Go.Proofs.Ytkagjppacjaokaa.PureOps
