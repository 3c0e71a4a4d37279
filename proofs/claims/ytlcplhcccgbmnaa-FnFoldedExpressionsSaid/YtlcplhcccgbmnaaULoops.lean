/- Loops as the print tells them (rounds first, then the counter), told of once: plain facts on functions of rounds. -/
import Derived.Test.YtlcplhcccgbmnaaUPlain
namespace Go.Proofs.Ytlcplhcccgbmnaa.PureOps
open Go.RowKit Go.Proofs.YtlcplhcccgbmnaaW.PrintWords Go.Proofs.YtlcplhcccgbmnaaW.PrintLast Go.Proofs.YtlcplhcccgbmnaaW.PrintMore
set_option linter.unusedVariables false

theorem wrapS {i n : Nat} (h : i < n) (hn : n ≤ 9223372036854775807) : wrap64 ((i : Int) + 1) = ((i + 1 : Nat) : Int) := by
 rw [wrap64_small (by omega) (by omega)]; omega

/-- A loop that goes on while p holds, and answers 'no' at the first index where it does not. -/
theorem all_loop {β : Type} (L : Nat → Int → Option β) (n : Nat) (hn : n ≤ 9223372036854775807) (K : Nat) (p : Nat → Bool) (no : β) (fin : Nat → Option β) (r : β)
  (step : ∀ k (i : Nat), K ≤ k → i < n → L (k + 1) (i : Int) = if p i = true then L k (wrap64 ((i : Int) + 1)) else some no)
  (last : ∀ k, L (k + 1) (n : Int) = fin k) (hfin : ∀ k, K ≤ k → fin k = some r) (d : Nat) :
  ∀ k (i : Nat), i + d = n → K + d < k → L k (i : Int) = some (if ((List.range n).drop i).all p = true then r else no) := by
 induction d with
 | zero =>
  intro k i h hk
  obtain ⟨k, rfl⟩ : ∃ m, k = m + 1 := ⟨k - 1, by omega⟩
  obtain rfl : i = n := by omega
  rw [last, hfin k (by omega), List.drop_eq_nil_of_le (by simp)]
  rfl
 | succ d ih =>
  intro k i h hk
  obtain ⟨k, rfl⟩ : ∃ m, k = m + 1 := ⟨k - 1, by omega⟩
  have hi : i < n := by omega
  rw [step k i (by omega) hi, wrapS hi hn, ih k (i + 1) (by omega) (by omega)]
  rw [List.drop_eq_getElem_cons (show i < (List.range n).length by simpa using hi), List.all_cons, List.getElem_range]
  cases h : p i <;> simp
/-- A loop that may stop early, with whatever it answers: it answers something with a property. -/
theorem some_loop {σ β : Type} (L : Nat → σ → Int → Option β) (n : Nat) (hn : n ≤ 9223372036854775807) (K : Nat) (I : Nat → σ → Prop) (Q : β → Prop)
  (step : ∀ k (i : Nat) (s : σ), K ≤ k → i < n → I i s → (∃ r, L (k + 1) s (i : Int) = some r ∧ Q r) ∨ ∃ s', L (k + 1) s (i : Int) = L k s' (wrap64 ((i : Int) + 1)) ∧ I (i + 1) s')
  (last : ∀ k s, K ≤ k → I n s → ∃ r, L (k + 1) s (n : Int) = some r ∧ Q r) (d : Nat) :
  ∀ k (i : Nat) (s : σ), i + d = n → K + d < k → I i s → ∃ r, L k s (i : Int) = some r ∧ Q r := by
 induction d with
 | zero =>
  intro k i s h hk hI
  obtain ⟨k, rfl⟩ : ∃ m, k = m + 1 := ⟨k - 1, by omega⟩
  obtain rfl : i = n := by omega
  exact last k s (by omega) hI
 | succ d ih =>
  intro k i s h hk hI
  obtain ⟨k, rfl⟩ : ∃ m, k = m + 1 := ⟨k - 1, by omega⟩
  have hi : i < n := by omega
  rcases step k i s (by omega) hi hI with h1 | ⟨s', h1, h2⟩
  ·exact h1
  ·rw [h1, wrapS hi hn]
   exact ih k (i + 1) s' (by omega) (by omega) h2
end Go.Proofs.Ytlcplhcccgbmnaa.PureOps
