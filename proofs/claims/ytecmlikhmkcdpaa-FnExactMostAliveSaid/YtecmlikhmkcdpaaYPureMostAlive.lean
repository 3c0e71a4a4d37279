/- MostAlive of the program and of the reference agree for all arguments. -/
import Derived.Test.YtecmlikhmkcdpaaYPureLiveSets
import Derived.Test.YtecmlikhmkcdpaaYMKinds
import Derived.Test.YtecmlikhmkcdpaaGSpecCdSets
import Derived.Test.YtecmlikhmkcdpaaGSpecCdSets
import Derived.Test.YtecmlikhmkcdpaaGLawsFnExactMostAlive
namespace Go.Proofs.Ytecmlikhmkcdpaa.PureOps
open Go.RowKit Go.Proofs.Ytecmlikhmkcdpaa.G Go.Proofs.YtecmlikhmkcdpaaW.PrintWords Go.Proofs.YtecmlikhmkcdpaaW.PrintLast Go.Proofs.YtecmlikhmkcdpaaW.PrintMore Go.Proofs.Ytecmlikhmkcdpaa.MKinds
set_option linter.unusedVariables false
set_option linter.unusedSimpArgs false
theorem most_loop (L : List (List Int)) (hn : L.length ≤ 100) (d : Nat) : ∀ (k1 k2 i : Nat) (a : Int), i + d = L.length → d + 3 < k1 → d + 3 < k2 → ∃ r, spec_MostAlive.l0 k1 a L (L.length : Int) (i : Int) = some (r, true) ∧ impl_MostAlive.l0 k2 true a L (L.length : Int) (i : Int) = some (r, true) := by
  induction d with
  | zero =>
    intro k1 k2 i a h h1 h2
    obtain ⟨k1, rfl⟩ : ∃ q, k1 = q + 1 := ⟨k1 - 1, by omega⟩
    obtain ⟨k2, rfl⟩ : ∃ q, k2 = q + 1 := ⟨k2 - 1, by omega⟩
    refine ⟨a, ?_, ?_⟩
    · simp only [spec_MostAlive.l0]
      rw [if_neg (by omega)]
    · simp only [impl_MostAlive.l0]
      rw [if_neg (by omega)]
  | succ d ih =>
    intro k1 k2 i a h h1 h2
    obtain ⟨k1, rfl⟩ : ∃ q, k1 = q + 1 := ⟨k1 - 1, by omega⟩
    obtain ⟨k2, rfl⟩ : ∃ q, k2 = q + 1 := ⟨k2 - 1, by omega⟩
    have hi : i < L.length := by omega
    have hm : ∀ x y : Int, spec_l1Most.f x y = some (mx x y) := fun x y => by
      unfold spec_l1Most.f mx
      by_cases e : x > y
      · rw [if_pos e]
        congr 1
        omega
      · rw [if_neg e]
        congr 1
        omega
    obtain ⟨r, e1, e2⟩ := ih k1 k2 (i + 1) (mx a ((rd_L4 L (i : Int)).length : Int)) (by omega) (by omega) (by omega)
    refine ⟨r, ?_, ?_⟩
    · simp only [spec_MostAlive.l0]
      rw [if_pos (by omega), if_pos (by omega), if_pos (by omega), hm, Option.bind_some, wrapS hi (by omega)]
      exact e1
    · simp only [impl_MostAlive.l0]
      rw [if_pos (by omega), if_pos (by omega), if_pos (by omega), wrapS hi (by omega)]
      exact e2
theorem most_both (k : Nat) (xs : List IInstr) (u : List Int) (hn : xs.length ≤ 1048576) (hu : u.length ≤ 1048576) (hk : xs.length + u.length + 160 < k) : ∃ q, spec_MostAlive.f k xs u = some q ∧ impl_MostAlive.f k xs u = some q := by
  unfold spec_MostAlive.f impl_MostAlive.f impl_LiveSets.f
  obtain ⟨k, rfl⟩ : ∃ m, k = m + 1 := ⟨k - 1, by omega⟩
  have hz : impl_MostAlive.l0 (k + 1) false 0 [] ((([] : List (List Int)).length : Nat) : Int) 0 = some (0, false) := by
    simp only [impl_MostAlive.l0]
    rw [if_neg (by simp)]
  rw [cdCode_f _ xs hn (by omega), isCode_f _ xs hn (by omega), Option.bind_some, Option.bind_some]
  simp only [spec_MostAlive.j0]
  by_cases hc : codeOk xs = true
  · rw [if_pos hc, if_pos hc, cdWanted_f _ u hu (by omega), areWanted_f _ u hu (by omega), Option.bind_some, Option.bind_some]
    by_cases hb : wantedL u = true
    · have hw := (wantedL_iff u).1 hb
      have hl := codeOk_len hc
      obtain ⟨r, e1, e2⟩ := most_loop (setsL xs u xs.length) (by simp [setsL]; omega) (setsL xs u xs.length).length k (k + 1) 0 0 (by omega) (by simp [setsL]; omega) (by simp [setsL]; omega)
      rw [hb, if_neg (by decide), if_pos rfl, spec_sets k xs hc u hw (by omega), impl_sets _ xs hc u hw, Option.bind_some, Option.bind_some, Option.bind_some]
      exact ⟨(r, true), e1, e2⟩
    · rw [Bool.eq_false_iff.2 hb, if_pos (by decide), if_neg (by decide), Option.bind_some]
      exact ⟨(0, false), rfl, hz⟩
  · rw [if_neg hc, if_neg hc, if_pos trivial, Option.bind_some]
    exact ⟨(0, false), rfl, hz⟩
theorem mostAlive_true (xs : List LInstr) (u : List Int) (hn : xs.length ≤ 9223372036854775807) (hs : ∀ x ∈ xs, x.f0.size ≤ 9223372036854775807) : laws_FnExactMostAlive.f (xs.length + u.length + 300) xs u = some true := by
  unfold laws_FnExactMostAlive.f
  by_cases hu : (u.length : Int) > 1048576
  · rw [if_pos hu]
  rw [if_neg hu]
  have hu2 : u.length ≤ 1048576 := by omega
  obtain ⟨r, hr, _, hl⟩ := szInstrS_f (xs.length + u.length + 300) xs 1048576 (by omega) (by omega) hn hs (by omega)
  rw [hr, Option.bind_some]
  by_cases h : r < 0
  · rw [if_pos h]
  rw [if_neg h]
  have hn2 : xs.length ≤ 1048576 := by have := hl (by omega); omega
  have ex : (xs.map convI).length = xs.length := by simp
  obtain ⟨⟨q1, q2⟩, h1, h2⟩ := most_both (xs.length + u.length + 300) (xs.map convI) u (by omega) hu2 (by omega)
  rw [toInstrS_f _ xs hn2 (by omega), toIntN_f _ u hu2 (by omega)]
  simp only [Option.bind_some, h1, h2]
  rw [if_pos trivial, bne_self_eq_false]
  rw [show xs.length + u.length + 300 = (xs.length + u.length + 299) + 1 from rfl]
  simp only [laws_FnExactMostAlive.j0]
  rw [if_neg (by decide), toInstrS_f _ xs hn2 (by omega), Option.bind_some, eqInstrS_f _ _ (by omega) (by omega), Option.bind_some, if_pos rfl, toIntN_f _ u hu2 (by omega), Option.bind_some, eqIntN_f _ u hu2 (by omega), Option.bind_some, if_pos rfl]
theorem len_ok {n : Nat} (h : n ≤ maxLen) : n ≤ 9223372036854775807 := by unfold maxLen at h; exact h
theorem instrs_ok {xs : List LInstr} (h : ∀ x ∈ xs, instrSOk x) : ∀ x ∈ xs, x.f0.size ≤ 9223372036854775807 := fun x hx => len_ok (h x hx).1
theorem mostAlive_walk (A : Option Addr) (c : Nat) (xs : List LInstr) (hl : xs.length ≤ c) (W : World) (hr : Kd.C k65 W A xs.length xs) (hm : xs.length ≤ maxLen) (ho : ∀ x ∈ xs, instrSOk x) (B : Option Addr) (d : Nat) (u : List Int) (hl' : u.length ≤ d) (hr' : Kd.C (Kd.int .i64) W B u.length u) (hm' : u.length ≤ maxLen) (ho' : ∀ x ∈ u, (Lit.int .i64 x).wf = true) :
    Calls Try.prog 10 #[.slice A xs.length c, .slice B u.length d] W fun e w' => e = .returned (.bool true) ∧ Below W.heap.size W w' :=
  laws_FnExactMostAlive.calls (xs.length + u.length + 300) A c xs B d u true W hr hl hr' hl' (mostAlive_true xs u (len_ok hm) (instrs_ok ho)) rfl
end Go.Proofs.Ytecmlikhmkcdpaa.PureOps
