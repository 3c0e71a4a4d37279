/- Which nodes are kept: one answer of both sides. Plain. -/
import Derived.Test.YtlcplhcccgbmnaaUPureMoved
import Derived.Test.YtlcplhcccgbmnaaDAll
namespace Go.Proofs.Ytlcplhcccgbmnaa.PureOps
open Go.RowKit Go.Proofs.Ytlcplhcccgbmnaa.D Go.Proofs.YtlcplhcccgbmnaaW.PrintWords Go.Proofs.YtlcplhcccgbmnaaW.PrintLast Go.Proofs.YtlcplhcccgbmnaaW.PrintMore
set_option linter.unusedVariables false
set_option linter.unusedSimpArgs false
theorem rdB_app (N R : List Bool) (p : Int) (h0 : 0 ≤ p) (h : p < N.length) : rdOf false (N ++ R) p = rdOf false N p := by
 unfold rdOf
 rw [List.getD_eq_getElem?_getD, List.getD_eq_getElem?_getD, List.getElem?_append_left (by omega)]
/-- A node is needed if the one that uses it is. -/
def setB (i : Int) (N : List Bool) (p : Int) : List Bool := if rdOf false N p = true then N.set p.toNat true else N.set p.toNat (rdOf false N i)
theorem setB_length (i : Int) (N : List Bool) (p : Int) : (setB i N p).length = N.length := by unfold setB; split <;> simp
theorem setBs_length (i : Int) (ps : List Int) : ∀ N, (ps.foldl (setB i) N).length = N.length := by
 induction ps with
 | nil => intro N; rfl
 | cons p ps ih => intro N; rw [List.foldl_cons, ih, setB_length]
theorem setB_app (i : Int) (N R : List Bool) (p : Int) (h0 : 0 ≤ p) (h : p < N.length) (i0 : 0 ≤ i) (hi : i < N.length) : setB i (N ++ R) p = setB i N p ++ R := by
 unfold setB
 rw [rdB_app N R p h0 h, rdB_app N R i i0 hi]
 split <;> rw [List.set_append, if_pos (by omega)]
theorem setBs_app (i : Int) (R : List Bool) (i0 : 0 ≤ i) (ps : List Int) : ∀ N, (∀ p ∈ ps, 0 ≤ p ∧ p < N.length) → i < N.length → ps.foldl (setB i) (N ++ R) = ps.foldl (setB i) N ++ R := by
 induction ps with
 | nil => intro N _ _; rfl
 | cons p ps ih =>
  intro N hp hi
  have hp0 := hp p (List.mem_cons_self ..)
  rw [List.foldl_cons, List.foldl_cons, setB_app i N R p hp0.1 hp0.2 i0 hi]
  exact ih _ (fun q hq => by rw [setB_length]; exact hp q (List.mem_cons_of_mem _ hq)) (by rw [setB_length]; exact hi)
theorem keep1_s (xs : List INode) (root : Int) (i : Nat) (ps : List Int) (hl : ps.length ≤ 2) (e : Nat) : ∀ (k j : Nat) (N : List Bool), j + e = ps.length → e < k → (∀ p ∈ ps, 0 ≤ p ∧ p < N.length) → i < N.length →
  ∃ k', k ≤ k' + e + 1 ∧ spec_exKeep.l1 k xs root N (i : Int) ps (ps.length : Int) (j : Int) = spec_exKeep.l0 k' xs root ((ps.drop j).foldl (setB (i : Int)) N) (wrap64 ((i : Int) - 1)) := by
 induction e with
 | zero =>
  intro k j N h hk hp hi
  obtain ⟨k, rfl⟩ : ∃ m, k = m + 1 := ⟨k - 1, by omega⟩
  refine ⟨k, by omega, ?_⟩
  simp only [spec_exKeep.l1]
  rw [if_neg (by omega), List.drop_eq_nil_of_le (by omega)]; rfl
 | succ e ih =>
  intro k j N h hk hp hi
  obtain ⟨k, rfl⟩ : ∃ m, k = m + 1 := ⟨k - 1, by omega⟩
  have hj : j < ps.length := by omega
  obtain ⟨h0, h1⟩ := hp ps[j] (List.getElem_mem hj)
  obtain ⟨k', hk', e'⟩ := ih k (j + 1) (setB (i : Int) N ps[j]) (by omega) (by omega) (fun p hpp => by rw [setB_length]; exact hp p hpp) (by rw [setB_length]; exact hi)
  refine ⟨k', by omega, ?_⟩
  rw [List.drop_eq_getElem_cons hj, List.foldl_cons, ← e']
  simp only [spec_exKeep.l1]
  rw [if_pos (by omega), if_pos (by omega), if_pos (by omega), rd_get ps j hj, if_pos h0, if_pos h1, wrapS hj (by omega)]
  unfold setB
  by_cases hb : rdOf false N ps[j] = true
  ·rw [if_pos hb, if_pos hb]
  ·rw [if_neg hb, if_neg hb, if_pos (by omega), if_pos (by omega)]
theorem keep1_i (xs : List INode) (i : Nat) (ps : List Int) (hl : ps.length ≤ 2) (e : Nat) : ∀ (k j : Nat) (N : List Bool), j + e = ps.length → e < k → (∀ p ∈ ps, 0 ≤ p ∧ p < N.length) → i < N.length →
  ∃ k', k ≤ k' + e + 1 ∧ impl_kept.l1 k xs N (i : Int) ps (ps.length : Int) (j : Int) = impl_kept.l0 k' xs ((ps.drop j).foldl (setB (i : Int)) N) (wrap64 ((i : Int) - 1)) := by
 induction e with
 | zero =>
  intro k j N h hk hp hi
  obtain ⟨k, rfl⟩ : ∃ m, k = m + 1 := ⟨k - 1, by omega⟩
  refine ⟨k, by omega, ?_⟩
  simp only [impl_kept.l1]
  rw [if_neg (by omega), List.drop_eq_nil_of_le (by omega)]; rfl
 | succ e ih =>
  intro k j N h hk hp hi
  obtain ⟨k, rfl⟩ : ∃ m, k = m + 1 := ⟨k - 1, by omega⟩
  have hj : j < ps.length := by omega
  obtain ⟨h0, h1⟩ := hp ps[j] (List.getElem_mem hj)
  obtain ⟨k', hk', e'⟩ := ih k (j + 1) (setB (i : Int) N ps[j]) (by omega) (by omega) (fun p hpp => by rw [setB_length]; exact hp p hpp) (by rw [setB_length]; exact hi)
  refine ⟨k', by omega, ?_⟩
  rw [List.drop_eq_getElem_cons hj, List.foldl_cons, ← e']
  simp only [impl_kept.l1]
  rw [if_pos (by omega), if_pos (by omega), if_pos (by omega), rd_get ps j hj, if_pos h0, if_pos h1, wrapS hj (by omega)]
  unfold setB
  by_cases hb : rdOf false N ps[j] = true
  ·rw [if_pos hb, if_pos hb]
  ·rw [if_neg hb, if_neg hb, if_pos (by omega), if_pos (by omega)]
theorem keep0 (xs : List INode) (hok : okAll xs) (hn : xs.length ≤ 1048576) (root : Nat) (hr : root < xs.length) (R : List Bool) (m : Nat) : ∀ (k1 k2 : Nat) (N : List Bool), N.length = root + 1 → m ≤ root + 1 → 5 * m + 20 < k1 → 5 * m + 20 < k2 →
  ∃ k1' k2' N', k1 ≤ k1' + 4 * m ∧ k2 ≤ k2' + 4 * m ∧ N'.length = root + 1 ∧ spec_exKeep.l0 k1 xs (root : Int) N ((m : Int) - 1) = spec_exKeep.l0 k1' xs (root : Int) N' (-1) ∧ impl_kept.l0 k2 xs (N ++ R) ((m : Int) - 1) = impl_kept.l0 k2' xs (N' ++ R) (-1) := by
 induction m with
 | zero => intro k1 k2 N hN hm h1 h2; exact ⟨k1, k2, N, by omega, by omega, hN, rfl, rfl⟩
 | succ m ih =>
  intro k1 k2 N hN hm h1 h2
  obtain ⟨k1, rfl⟩ : ∃ q, k1 = q + 1 := ⟨k1 - 1, by omega⟩
  obtain ⟨k2, rfl⟩ : ∃ q, k2 = q + 1 := ⟨k2 - 1, by omega⟩
  have hi : m < xs.length := by omega
  have hp : ∀ p ∈ partsOf xs[m], 0 ≤ p ∧ p < N.length := fun p hp => by
   have := parts_lt (hok m hi) p hp
   omega
  have hp' : ∀ p ∈ partsOf xs[m], 0 ≤ p ∧ p < (N ++ R).length := fun p hpp => by
   have := hp p hpp
   rw [List.length_append]
   omega
  have hl : (partsOf xs[m]).length ≤ 2 := parts_len _ _ _
  obtain ⟨q1, hq1, e1⟩ := keep1_s xs (root : Int) m (partsOf xs[m]) hl (partsOf xs[m]).length k1 0 N (by omega) (by omega) hp (by omega)
  obtain ⟨q2, hq2, e2⟩ := keep1_i xs m (partsOf xs[m]) hl (partsOf xs[m]).length k2 0 (N ++ R) (by omega) (by omega) hp' (by rw [List.length_append]; omega)
  rw [List.drop_zero] at e1 e2
  rw [setBs_app (m : Int) R (by omega) _ N hp (by omega)] at e2
  rw [show wrap64 ((m : Int) - 1) = (m : Int) - 1 from wrap64_small (by omega) (by omega)] at e1 e2
  obtain ⟨k1', k2', N', a1, a2, a3, a4, a5⟩ := ih q1 q2 ((partsOf xs[m]).foldl (setB (m : Int)) N) (by rw [setBs_length]; exact hN) (by omega) (by omega) (by omega)
  refine ⟨k1', k2', N', by omega, by omega, a3, ?_, ?_⟩
  ·rw [← a4, ← e1, show (((m + 1 : Nat) : Int) - 1) = (m : Int) by omega]
   simp only [spec_exKeep.l0]
   rw [if_pos (by omega), if_pos (by omega), if_pos (by omega), rdI xs m hi, exParts_f k1 (by omega), Option.bind_some]
   rfl
  ·rw [← a5, ← e2, show (((m + 1 : Nat) : Int) - 1) = (m : Int) by omega]
   simp only [impl_kept.l0]
   rw [if_pos (by omega), if_pos (by omega), if_pos (by omega), rdI xs m hi, of_f k2 (by omega), Option.bind_some]
   rfl
theorem skip_i (xs : List INode) (hn : xs.length ≤ 1048576) (N : List Bool) (n0 : Nat) (hN : N.length = n0) (q : Nat) (out : List INode) (P : List Int) (hq : n0 + q = xs.length) (d : Nat) : ∀ (k i : Nat), i + d = xs.length → d < k → n0 ≤ i →
  impl_kept.l2 k (N ++ List.replicate q false) out P xs (xs.length : Int) (i : Int) = some out := by
 induction d with
 | zero =>
  intro k i h hk hi
  obtain ⟨k, rfl⟩ : ∃ m, k = m + 1 := ⟨k - 1, by omega⟩
  simp only [impl_kept.l2]
  rw [if_neg (by omega)]
 | succ d ih =>
  intro k i h hk hi
  obtain ⟨k, rfl⟩ : ∃ m, k = m + 1 := ⟨k - 1, by omega⟩
  have hi' : i < xs.length := by omega
  have hf : rdOf false (N ++ List.replicate q false) (i : Int) = false := by
   unfold rdOf
   rw [List.getD_eq_getElem?_getD, Int.toNat_natCast, List.getElem?_append_right (by omega)]
   rw [List.getElem?_replicate]
   split <;> rfl
  simp only [impl_kept.l2]
  rw [if_pos (by omega), if_pos (by omega), if_pos (by omega), if_pos (by rw [List.length_append, List.length_replicate]; omega), hf, if_neg (by decide), wrapS hi' (by omega)]
  exact ih k (i + 1) (by omega) (by omega) (by omega)
theorem keep2 (xs : List INode) (hok : okAll xs) (hn : xs.length ≤ 1048576) (root : Nat) (q : Nat) (hq : root + 1 + q = xs.length) (N : List Bool) (hN : N.length = root + 1) (d : Nat) : ∀ (k1 k2 i : Nat) (P : List Int) (out : List INode), i + d = root + 1 → d + 40 < k1 → d + xs.length + 40 < k2 → P.length = root + 1 → out.length ≤ i →
  ∃ r, spec_exKeep.l2 k1 xs (root : Int) N P out (i : Int) = some r ∧ impl_kept.l2 k2 (N ++ List.replicate q false) out (P ++ List.replicate q 0) xs (xs.length : Int) (i : Int) = some r ∧ r.length ≤ out.length + d := by
 induction d with
 | zero =>
  intro k1 k2 i P out h h1 h2 hP ho
  refine ⟨out, ?_, skip_i xs hn N (root + 1) hN q out _ hq q k2 i (by omega) (by omega) (by omega), by omega⟩
  obtain ⟨k1, rfl⟩ : ∃ m, k1 = m + 1 := ⟨k1 - 1, by omega⟩
  simp only [spec_exKeep.l2]
  rw [if_neg (by omega)]
 | succ d ih =>
  intro k1 k2 i P out h h1 h2 hP ho
  obtain ⟨k1, rfl⟩ : ∃ m, k1 = m + 1 := ⟨k1 - 1, by omega⟩
  obtain ⟨k2, rfl⟩ : ∃ m, k2 = m + 1 := ⟨k2 - 1, by omega⟩
  have hi : i < xs.length := by omega
  have hir : i < root + 1 := by omega
  have hb : rdOf false (N ++ List.replicate q false) (i : Int) = rdOf false N (i : Int) := rdB_app N _ _ (by omega) (by omega)
  have hs : (P ++ List.replicate q 0).set i (out.length : Int) = P.set i (out.length : Int) ++ List.replicate q 0 := by rw [List.set_append, if_pos (by omega)]
  have hPl : (P.set i (out.length : Int)).length = root + 1 := by rw [List.length_set]; exact hP
  have hwS : Unit → wrap64 ((i : Int) + 1) = ((i + 1 : Nat) : Int) := fun _ => wrapS hi (by omega)
  simp only [spec_exKeep.l2, impl_kept.l2]
  rw [if_pos (show (i : Int) ≤ (root : Int) by omega), if_pos (show (0 : Int) ≤ (i : Int) by omega), if_pos (show (i : Int) < (N.length : Int) by omega), if_pos (show (i : Int) < (xs.length : Int) by omega), if_pos (show (0 : Int) ≤ (i : Int) by omega), if_pos (show (i : Int) < (xs.length : Int) by omega), if_pos (show (i : Int) < ((N ++ List.replicate q false).length : Int) by rw [List.length_append]; omega), hb]
  by_cases hc : rdOf false N (i : Int) = true
  ·have hm1 := moved_s k1 (by omega) xs[i] (i : Int) (hok i hi) (P.set i (out.length : Int)) (by omega)
   have hm2 := moved_i k2 (by omega) xs[i] (i : Int) (hok i hi) (P.set i (out.length : Int) ++ List.replicate q 0) (by rw [List.length_append]; omega)
   rw [moved_app xs[i] (i : Int) (hok i hi) _ _ (by omega)] at hm2
   obtain ⟨r, e1, e2, e3⟩ := ih k1 k2 (i + 1) (P.set i (out.length : Int)) (out ++ [moved xs[i] (P.set i (out.length : Int))]) (by omega) (by omega) (by omega) hPl (by simp; omega)
   refine ⟨r, ?_, ?_, by simp at e3; omega⟩
   ·rw [if_pos hc, if_pos (by omega), Int.toNat_natCast, Option.bind_some, if_pos (by omega), rdI xs i hi, hm1, Option.bind_some, if_pos (by omega), hwS ()]
    exact e1
   ·rw [if_pos hc, if_pos (by rw [List.length_append]; omega), Int.toNat_natCast, Option.bind_some, rdI xs i hi, hs, hm2, Option.bind_some, if_pos (by omega), hwS ()]
    exact e2
  ·obtain ⟨r, e1, e2, e3⟩ := ih k1 k2 (i + 1) P out (by omega) (by omega) (by omega) hP (by omega)
   refine ⟨r, ?_, ?_, by omega⟩
   ·rw [if_neg hc, hwS ()]; exact e1
   ·rw [if_neg hc, hwS ()]; exact e2
theorem keep_g (k : Nat) (xs : List INode) (n1 : 1 ≤ xs.length) (n2 : xs.length ≤ 24) (hok : okAll xs) (root : Nat) (hr : root < xs.length) (hk : 400 < k) : ∃ r, spec_exKeep.f k xs (root : Int) = some r ∧ impl_kept.f k xs (root : Int) = some r ∧ r.length ≤ 24 := by
 obtain ⟨q, hq⟩ : ∃ q, root + 1 + q = xs.length := ⟨xs.length - (root + 1), by omega⟩
 have hN : ((List.replicate (root + 1) false).set root true).length = root + 1 := by simp
 obtain ⟨k1, k2, N', a1, a2, a3, a4, a5⟩ := keep0 xs hok (by omega) root hr (List.replicate q false) (root + 1) k k ((List.replicate (root + 1) false).set root true) hN (by omega) (by omega) (by omega)
 obtain ⟨k1, rfl⟩ : ∃ m, k1 = m + 1 := ⟨k1 - 1, by omega⟩
 obtain ⟨k2, rfl⟩ : ∃ m, k2 = m + 1 := ⟨k2 - 1, by omega⟩
 obtain ⟨r, e1, e2, e3⟩ := keep2 xs hok (by omega) root q hq N' a3 (root + 1) k1 k2 0 (List.replicate (root + 1) 0) [] (by omega) (by omega) (by omega) (by simp) (by simp)
 have hw : Unit → wrap64 ((root : Int) + 1) = ((root + 1 : Nat) : Int) := fun _ => wrapS hr (by omega)
 rw [show (((root + 1 : Nat) : Int) - 1) = (root : Int) by omega] at a4 a5
 refine ⟨r, ?_, ?_, by simp at e3; omega⟩
 ·unfold spec_exKeep.f
  rw [hw (), if_pos (by omega), if_pos (by omega), Option.bind_some, if_pos (by omega), if_pos (by rw [List.length_replicate]; omega), Int.toNat_natCast, Int.toNat_natCast, a4]
  simp only [spec_exKeep.l0]
  rw [if_neg (by omega), hw (), if_pos (by omega), if_pos (by omega), Int.toNat_natCast]
  exact e1
 ·unfold impl_kept.f
  have hrep : List.replicate xs.length false = List.replicate (root + 1) false ++ List.replicate q false := by rw [← hq, List.replicate_append_replicate]
  have hrep0 : List.replicate xs.length (0 : Int) = List.replicate (root + 1) 0 ++ List.replicate q 0 := by rw [← hq, List.replicate_append_replicate]
  rw [if_pos (by omega), if_pos (by omega), Option.bind_some, if_pos (by omega), if_pos (by rw [List.length_replicate]; omega), Int.toNat_natCast, Int.toNat_natCast, hrep, List.set_append, if_pos (by simp), a5]
  simp only [impl_kept.l0]
  rw [if_neg (by omega), if_pos (by omega), if_pos (by omega), Int.toNat_natCast, hrep0]
  exact e2
end Go.Proofs.Ytlcplhcccgbmnaa.PureOps
