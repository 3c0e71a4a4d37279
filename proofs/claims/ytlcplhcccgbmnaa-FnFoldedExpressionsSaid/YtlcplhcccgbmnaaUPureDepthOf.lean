/- DepthOf of the program and of the reference agree for all arguments. -/
import Derived.Test.YtlcplhcccgbmnaaUPureIsExpr0
import Derived.Test.YtlcplhcccgbmnaaDAll
namespace Go.Proofs.Ytlcplhcccgbmnaa.PureOps
open Go.RowKit Go.Proofs.Ytlcplhcccgbmnaa.D Go.Proofs.YtlcplhcccgbmnaaW.PrintWords Go.Proofs.YtlcplhcccgbmnaaW.PrintLast Go.Proofs.YtlcplhcccgbmnaaW.PrintMore
set_option linter.unusedVariables false
theorem most_f (a b : Int) : spec_l1Most.f a b = some (mx a b) := by
 unfold spec_l1Most.f mx
 by_cases h : a > b
 ·rw [if_pos h, if_neg (by omega)]
 ·rw [if_neg h]
  by_cases h2 : a < b
  ·rw [if_pos h2]
  ·rw [if_neg h2]; congr 1; omega
def deep (i : Nat) (u : List Int) (p : Int) : List Int := u.set i (mx (rd u (i : Int)) (wrap64 (rd u p + 1)))
theorem deep_length (i : Nat) (u : List Int) (p : Int) : (deep i u p).length = u.length := by simp [deep]
theorem deeps_length (i : Nat) (ps : List Int) : ∀ u : List Int, (ps.foldl (deep i) u).length = u.length := by
 induction ps with
 | nil => intro u; rfl
 | cons p ps ih => intro u; rw [List.foldl_cons, ih, deep_length]
theorem deepIn_s (xs : List INode) (i : Nat) (ps : List Int) (hl : ps.length ≤ 2) (e : Nat) : ∀ (k j : Nat) (u : List Int), j + e = ps.length → e < k → i < u.length → (∀ p ∈ ps, 0 ≤ p ∧ p < u.length) →
  ∃ k', k ≤ k' + e + 1 ∧ spec_DepthOf.l1 k xs u (i : Int) xs (xs.length : Int) (i : Int) ps (ps.length : Int) (j : Int) = spec_DepthOf.l0 k' xs ((ps.drop j).foldl (deep i) u) xs (xs.length : Int) (wrap64 ((i : Int) + 1)) := by
 induction e with
 | zero =>
  intro k j u h hk hi hp
  obtain ⟨k, rfl⟩ : ∃ m, k = m + 1 := ⟨k - 1, by omega⟩
  refine ⟨k, by omega, ?_⟩
  simp only [spec_DepthOf.l1]
  rw [if_neg (by omega), List.drop_eq_nil_of_le (by omega)]; rfl
 | succ e ih =>
  intro k j u h hk hi hp
  obtain ⟨k, rfl⟩ : ∃ m, k = m + 1 := ⟨k - 1, by omega⟩
  have hj : j < ps.length := by omega
  obtain ⟨h0, h1⟩ := hp ps[j] (List.getElem_mem hj)
  obtain ⟨k', hk', e'⟩ := ih k (j + 1) (deep i u ps[j]) (by omega) (by omega) (by rw [deep_length]; exact hi) (fun p hpp => by rw [deep_length]; exact hp p hpp)
  refine ⟨k', by omega, ?_⟩
  simp only [spec_DepthOf.l1]
  rw [if_pos (by omega), if_pos (by omega), if_pos (by omega), if_pos (by omega), if_pos (by omega), rd_get ps j hj, if_pos h0, if_pos h1, most_f, Option.bind_some, Int.toNat_natCast, wrapS hj (by omega), List.drop_eq_getElem_cons hj, List.foldl_cons]
  exact e'
theorem deepIn_i (xs : List INode) (i : Nat) (ps : List Int) (hl : ps.length ≤ 2) (e : Nat) : ∀ (k j : Nat) (u : List Int), j + e = ps.length → e < k → i < u.length → (∀ p ∈ ps, 0 ≤ p ∧ p < u.length) →
  ∃ k', k ≤ k' + e + 1 ∧ impl_DepthOf.l1 k xs u (i : Int) xs (xs.length : Int) (i : Int) ps (ps.length : Int) (j : Int) = impl_DepthOf.l0 k' xs ((ps.drop j).foldl (deep i) u) xs (xs.length : Int) (wrap64 ((i : Int) + 1)) := by
 induction e with
 | zero =>
  intro k j u h hk hi hp
  obtain ⟨k, rfl⟩ : ∃ m, k = m + 1 := ⟨k - 1, by omega⟩
  refine ⟨k, by omega, ?_⟩
  simp only [impl_DepthOf.l1]
  rw [if_neg (by omega), List.drop_eq_nil_of_le (by omega)]; rfl
 | succ e ih =>
  intro k j u h hk hi hp
  obtain ⟨k, rfl⟩ : ∃ m, k = m + 1 := ⟨k - 1, by omega⟩
  have hj : j < ps.length := by omega
  obtain ⟨h0, h1⟩ := hp ps[j] (List.getElem_mem hj)
  obtain ⟨k', hk', e'⟩ := ih k (j + 1) (deep i u ps[j]) (by omega) (by omega) (by rw [deep_length]; exact hi) (fun p hpp => by rw [deep_length]; exact hp p hpp)
  refine ⟨k', by omega, ?_⟩
  simp only [impl_DepthOf.l1]
  rw [if_pos (by omega), if_pos (by omega), if_pos (by omega), if_pos (by omega), if_pos (by omega), rd_get ps j hj, if_pos h0, if_pos h1, Int.toNat_natCast, wrapS hj (by omega), List.drop_eq_getElem_cons hj, List.foldl_cons]
  exact e'
/-- The depths, node by node. -/
def depths (xs : List INode) : Nat → Nat → List Int → List Int
 | 0, _, u => u
 | d + 1, i, u => depths xs d (i + 1) ((partsOf (xs.getD i z47)).foldl (deep i) u)
theorem depth_main (xs : List INode) (hok : okAll xs) (hn : xs.length ≤ 1048576) (h1 : 1 ≤ xs.length) (d : Nat) : ∀ (k i : Nat) (u : List Int), i + d = xs.length → 4 * d + 20 < k → u.length = xs.length →
  spec_DepthOf.l0 k xs u xs (xs.length : Int) (i : Int) = some (rd (depths xs d i u) ((xs.length - 1 : Nat) : Int), true) ∧ impl_DepthOf.l0 k xs u xs (xs.length : Int) (i : Int) = some (rd (depths xs d i u) ((xs.length - 1 : Nat) : Int), true) := by
 induction d with
 | zero =>
  intro k i u h hk hu
  obtain ⟨k, rfl⟩ : ∃ m, k = m + 1 := ⟨k - 1, by omega⟩
  have hw : wrap64 ((xs.length : Int) - 1) = ((xs.length - 1 : Nat) : Int) := by rw [wrap64_small (by omega) (by omega)]; omega
  refine ⟨?_, ?_⟩
  ·simp only [spec_DepthOf.l0, depths]
   rw [if_neg (by omega), hw, if_pos (by omega), if_pos (by omega)]
  ·simp only [impl_DepthOf.l0, depths]
   rw [if_neg (by omega), hw, if_pos (by omega), if_pos (by omega)]
 | succ d ih =>
  intro k i u h hk hu
  obtain ⟨k, rfl⟩ : ∃ m, k = m + 1 := ⟨k - 1, by omega⟩
  have hi : i < xs.length := by omega
  have hg : xs.getD i z47 = xs[i] := by rw [List.getD_eq_getElem?_getD, List.getElem?_eq_getElem hi, Option.getD_some]
  have hp : ∀ p ∈ partsOf xs[i], 0 ≤ p ∧ p < u.length := fun p hp => by
   have := parts_lt (hok i hi) p hp
   omega
  have hl : (partsOf xs[i]).length ≤ 2 := parts_len xs[i].f0.toList xs[i].f1 xs[i].f2
  obtain ⟨k1, hk1, e1⟩ := deepIn_s xs i (partsOf xs[i]) hl (partsOf xs[i]).length k 0 u (by omega) (by omega) (by omega) hp
  obtain ⟨k2, hk2, e2⟩ := deepIn_i xs i (partsOf xs[i]) hl (partsOf xs[i]).length k 0 u (by omega) (by omega) (by omega) hp
  rw [wrapS hi (by omega), List.drop_zero] at e1 e2
  simp only [depths, hg]
  refine ⟨?_, ?_⟩
  ·simp only [spec_DepthOf.l0]
   rw [if_pos (by omega), if_pos (by omega), if_pos (by omega), rdI xs i hi, exParts_f k (by omega), Option.bind_some]
   exact e1.trans (ih k1 (i + 1) _ (by omega) (by omega) (by rw [deeps_length]; exact hu)).1
  ·simp only [impl_DepthOf.l0]
   rw [if_pos (by omega), if_pos (by omega), if_pos (by omega), rdI xs i hi, of_f k (by omega), Option.bind_some]
   exact e2.trans (ih k2 (i + 1) _ (by omega) (by omega) (by rw [deeps_length]; exact hu)).2
end Go.Proofs.Ytlcplhcccgbmnaa.PureOps
