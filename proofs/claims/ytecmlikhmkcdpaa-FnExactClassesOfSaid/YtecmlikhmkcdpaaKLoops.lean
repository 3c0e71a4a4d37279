/- Loops as the print tells them (rounds first, then the counter), told of once: plain facts on functions of rounds. -/
import Derived.Test.YtecmlikhmkcdpaaKPlain
namespace Go.Proofs.Ytecmlikhmkcdpaa.PureOps
open Go.RowKit Go.Proofs.YtecmlikhmkcdpaaW.PrintWords Go.Proofs.YtecmlikhmkcdpaaW.PrintLast Go.Proofs.YtecmlikhmkcdpaaW.PrintMore
set_option linter.unusedVariables false

theorem wrapS {i n : Nat} (h : i < n) (hn : n ≤ 9223372036854775807) : wrap64 ((i : Int) + 1) = ((i + 1 : Nat) : Int) := by
  rw [wrap64_small (by omega) (by omega)]; omega

/-- A loop that goes on while p holds, and answers 'no' at the first index where it does not. -/
theorem all_loop {β : Type} (L : Nat → Int → Option β) (n : Nat) (hn : n ≤ 9223372036854775807) (K : Nat) (p : Nat → Bool) (no : β) (fin : Nat → Option β) (r : β)
    (step : ∀ k (i : Nat), K ≤ k → i < n → L (k + 1) (i : Int) = if p i = true then L k (wrap64 ((i : Int) + 1)) else some no)
    (last : ∀ k, L (k + 1) (n : Int) = fin k) (hfin : ∀ k, K ≤ k → fin k = some r) (d : Nat) :
    ∀ k (i : Nat), i + d = n → K + d < k → L k (i : Int) = some (if ((List.range n).drop i).all p = true then r else no) := by
  induction d with
  | zero =>
    intro k i h hk
    obtain ⟨k, rfl⟩ : ∃ m, k = m + 1 := ⟨k - 1, by omega⟩
    obtain rfl : i = n := by omega
    rw [last, hfin k (by omega), List.drop_eq_nil_of_le (by simp)]
    rfl
  | succ d ih =>
    intro k i h hk
    obtain ⟨k, rfl⟩ : ∃ m, k = m + 1 := ⟨k - 1, by omega⟩
    have hi : i < n := by omega
    rw [step k i (by omega) hi, wrapS hi hn, ih k (i + 1) (by omega) (by omega)]
    rw [List.drop_eq_getElem_cons (show i < (List.range n).length by simpa using hi), List.all_cons, List.getElem_range]
    cases h : p i <;> simp
/-- A loop that folds. -/
theorem fold_loop {σ β : Type} (L : Nat → σ → Int → Option β) (n : Nat) (hn : n ≤ 9223372036854775807) (K : Nat) (g : Nat → σ → σ) (I : Nat → σ → Prop) (fin : Nat → σ → Option β) (r : σ → β)
    (step : ∀ k (i : Nat) (s : σ), K ≤ k → i < n → I i s → L (k + 1) s (i : Int) = L k (g i s) (wrap64 ((i : Int) + 1)) ∧ I (i + 1) (g i s))
    (last : ∀ k s, I n s → L (k + 1) s (n : Int) = fin k s) (hfin : ∀ k s, K ≤ k → I n s → fin k s = some (r s)) (d : Nat) :
    ∀ k (i : Nat) (s : σ), i + d = n → K + d < k → I i s → L k s (i : Int) = some (r (((List.range n).drop i).foldl (fun s i => g i s) s)) ∧ I n (((List.range n).drop i).foldl (fun s i => g i s) s) := by
  induction d with
  | zero =>
    intro k i s h hk hI
    obtain ⟨k, rfl⟩ : ∃ m, k = m + 1 := ⟨k - 1, by omega⟩
    obtain rfl : i = n := by omega
    rw [last k s hI, List.drop_eq_nil_of_le (by simp)]
    exact ⟨hfin k s (by omega) hI, hI⟩
  | succ d ih =>
    intro k i s h hk hI
    obtain ⟨k, rfl⟩ : ∃ m, k = m + 1 := ⟨k - 1, by omega⟩
    have hi : i < n := by omega
    obtain ⟨h1, h2⟩ := step k i s (by omega) hi hI
    rw [h1, wrapS hi hn, List.drop_eq_getElem_cons (show i < (List.range n).length by simpa using hi), List.foldl_cons, List.getElem_range]
    exact ih k (i + 1) _ (by omega) (by omega) h2
/-- A loop that may stop early, with whatever it answers: it answers something with a property. -/
theorem some_loop {σ β : Type} (L : Nat → σ → Int → Option β) (n : Nat) (hn : n ≤ 9223372036854775807) (K : Nat) (I : Nat → σ → Prop) (Q : β → Prop)
    (step : ∀ k (i : Nat) (s : σ), K ≤ k → i < n → I i s → (∃ r, L (k + 1) s (i : Int) = some r ∧ Q r) ∨ ∃ s', L (k + 1) s (i : Int) = L k s' (wrap64 ((i : Int) + 1)) ∧ I (i + 1) s')
    (last : ∀ k s, K ≤ k → I n s → ∃ r, L (k + 1) s (n : Int) = some r ∧ Q r) (d : Nat) :
    ∀ k (i : Nat) (s : σ), i + d = n → K + d < k → I i s → ∃ r, L k s (i : Int) = some r ∧ Q r := by
  induction d with
  | zero =>
    intro k i s h hk hI
    obtain ⟨k, rfl⟩ : ∃ m, k = m + 1 := ⟨k - 1, by omega⟩
    obtain rfl : i = n := by omega
    exact last k s (by omega) hI
  | succ d ih =>
    intro k i s h hk hI
    obtain ⟨k, rfl⟩ : ∃ m, k = m + 1 := ⟨k - 1, by omega⟩
    have hi : i < n := by omega
    rcases step k i s (by omega) hi hI with h1 | ⟨s', h1, h2⟩
    · exact h1
    · rw [h1, wrapS hi hn]
      exact ih k (i + 1) s' (by omega) (by omega) h2
theorem range_all {α : Type} (xs : List α) (p : α → Bool) (z : α) : (List.range xs.length).all (fun i => p (xs.getD i z)) = xs.all p := by
  rw [Bool.eq_iff_iff, List.all_eq_true, List.all_eq_true]
  constructor
  · intro h x hx
    obtain ⟨i, hi, rfl⟩ := List.mem_iff_getElem.1 hx
    have := h i (List.mem_range.2 hi)
    rwa [List.getD_eq_getElem?_getD, List.getElem?_eq_getElem hi] at this
  · intro h i hi
    have hi' := List.mem_range.1 hi
    rw [List.getD_eq_getElem?_getD, List.getElem?_eq_getElem hi']
    exact h _ (List.getElem_mem hi')
theorem range_foldl {α σ : Type} (xs : List α) (g : σ → α → σ) (s : σ) (z : α) : (List.range xs.length).foldl (fun s i => g s (xs.getD i z)) s = xs.foldl g s := by
  have : xs = (List.range xs.length).map (fun i => xs.getD i z) := by
    apply List.ext_getElem
    · simp
    · intro i h1 h2
      simp [List.getD_eq_getElem?_getD, h1]
  conv => rhs; rw [this]
  rw [List.foldl_map]
end Go.Proofs.Ytecmlikhmkcdpaa.PureOps
