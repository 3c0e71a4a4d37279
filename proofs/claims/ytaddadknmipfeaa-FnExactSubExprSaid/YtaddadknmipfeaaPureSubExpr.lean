/- SubExpr of the program and of the reference agree for all arguments. -/
import Derived.Test.YtaddadknmipfeaaPureIsExpr0
import Derived.Test.YtaddadknmipfeaaPureMarksN
import Derived.Test.YtaddadknmipfeaaPureMoved
import Derived.Test.YtaddadknmipfeaaFSpecExKeep
import Derived.Test.YtaddadknmipfeaaFImplKept
import Derived.Test.YtaddadknmipfeaaFLawsFnExactSubExpr
namespace Go.Proofs.Ytaddadknmipfeaa.PureOps
open Go.RowKit Go.Proofs.Ytaddadknmipfeaa.F Go.Proofs.YtaddadknmipfeaaW.PrintWords Go.Proofs.YtaddadknmipfeaaW.PrintLast Go.Proofs.YtaddadknmipfeaaW.PrintMore Go.Proofs.Ytaddadknmipfeaa.MKinds
set_option linter.unusedVariables false
set_option linter.unusedSimpArgs false
theorem rdB_app (N R : List Bool) (p : Int) (h0 : 0 ≤ p) (h : p < N.length) : rdOf false (N ++ R) p = rdOf false N p := by
  unfold rdOf
  rw [List.getD_eq_getElem?_getD, List.getD_eq_getElem?_getD, List.getElem?_append_left (by omega)]
/-- A node is needed if the one that uses it is. -/
def setB (i : Int) (N : List Bool) (p : Int) : List Bool := if rdOf false N p = true then N.set p.toNat true else N.set p.toNat (rdOf false N i)
theorem setB_length (i : Int) (N : List Bool) (p : Int) : (setB i N p).length = N.length := by unfold setB; split <;> simp
theorem setBs_length (i : Int) (ps : List Int) : ∀ N, (ps.foldl (setB i) N).length = N.length := by
  induction ps with
  | nil => intro N; rfl
  | cons p ps ih => intro N; rw [List.foldl_cons, ih, setB_length]
theorem setB_app (i : Int) (N R : List Bool) (p : Int) (h0 : 0 ≤ p) (h : p < N.length) (i0 : 0 ≤ i) (hi : i < N.length) : setB i (N ++ R) p = setB i N p ++ R := by
  unfold setB
  rw [rdB_app N R p h0 h, rdB_app N R i i0 hi]
  split <;> rw [List.set_append, if_pos (by omega)]
theorem setBs_app (i : Int) (R : List Bool) (i0 : 0 ≤ i) (ps : List Int) : ∀ N, (∀ p ∈ ps, 0 ≤ p ∧ p < N.length) → i < N.length → ps.foldl (setB i) (N ++ R) = ps.foldl (setB i) N ++ R := by
  induction ps with
  | nil => intro N _ _; rfl
  | cons p ps ih =>
    intro N hp hi
    have hp0 := hp p (List.mem_cons_self ..)
    rw [List.foldl_cons, List.foldl_cons, setB_app i N R p hp0.1 hp0.2 i0 hi]
    exact ih _ (fun q hq => by rw [setB_length]; exact hp q (List.mem_cons_of_mem _ hq)) (by rw [setB_length]; exact hi)
theorem keep1_s (xs : List INode) (root : Int) (i : Nat) (ps : List Int) (hl : ps.length ≤ 2) (e : Nat) : ∀ (k j : Nat) (N : List Bool), j + e = ps.length → e < k → (∀ p ∈ ps, 0 ≤ p ∧ p < N.length) → i < N.length →
    ∃ k', k ≤ k' + e + 1 ∧ spec_exKeep.l1 k xs root N (i : Int) ps (ps.length : Int) (j : Int) = spec_exKeep.l0 k' xs root ((ps.drop j).foldl (setB (i : Int)) N) (wrap64 ((i : Int) - 1)) := by
  induction e with
  | zero =>
    intro k j N h hk hp hi
    obtain ⟨k, rfl⟩ : ∃ m, k = m + 1 := ⟨k - 1, by omega⟩
    refine ⟨k, by omega, ?_⟩
    simp only [spec_exKeep.l1]
    rw [if_neg (by omega), List.drop_eq_nil_of_le (by omega)]; rfl
  | succ e ih =>
    intro k j N h hk hp hi
    obtain ⟨k, rfl⟩ : ∃ m, k = m + 1 := ⟨k - 1, by omega⟩
    have hj : j < ps.length := by omega
    obtain ⟨h0, h1⟩ := hp ps[j] (List.getElem_mem hj)
    obtain ⟨k', hk', e'⟩ := ih k (j + 1) (setB (i : Int) N ps[j]) (by omega) (by omega) (fun p hpp => by rw [setB_length]; exact hp p hpp) (by rw [setB_length]; exact hi)
    refine ⟨k', by omega, ?_⟩
    rw [List.drop_eq_getElem_cons hj, List.foldl_cons, ← e']
    simp only [spec_exKeep.l1]
    rw [if_pos (by omega), if_pos (by omega), if_pos (by omega), rd_get ps j hj, if_pos h0, if_pos h1, wrapS hj (by omega)]
    unfold setB
    by_cases hb : rdOf false N ps[j] = true
    · rw [if_pos hb, if_pos hb]
    · rw [if_neg hb, if_neg hb, if_pos (by omega), if_pos (by omega)]
theorem keep1_i (xs : List INode) (i : Nat) (ps : List Int) (hl : ps.length ≤ 2) (e : Nat) : ∀ (k j : Nat) (N : List Bool), j + e = ps.length → e < k → (∀ p ∈ ps, 0 ≤ p ∧ p < N.length) → i < N.length →
    ∃ k', k ≤ k' + e + 1 ∧ impl_kept.l1 k xs N (i : Int) ps (ps.length : Int) (j : Int) = impl_kept.l0 k' xs ((ps.drop j).foldl (setB (i : Int)) N) (wrap64 ((i : Int) - 1)) := by
  induction e with
  | zero =>
    intro k j N h hk hp hi
    obtain ⟨k, rfl⟩ : ∃ m, k = m + 1 := ⟨k - 1, by omega⟩
    refine ⟨k, by omega, ?_⟩
    simp only [impl_kept.l1]
    rw [if_neg (by omega), List.drop_eq_nil_of_le (by omega)]; rfl
  | succ e ih =>
    intro k j N h hk hp hi
    obtain ⟨k, rfl⟩ : ∃ m, k = m + 1 := ⟨k - 1, by omega⟩
    have hj : j < ps.length := by omega
    obtain ⟨h0, h1⟩ := hp ps[j] (List.getElem_mem hj)
    obtain ⟨k', hk', e'⟩ := ih k (j + 1) (setB (i : Int) N ps[j]) (by omega) (by omega) (fun p hpp => by rw [setB_length]; exact hp p hpp) (by rw [setB_length]; exact hi)
    refine ⟨k', by omega, ?_⟩
    rw [List.drop_eq_getElem_cons hj, List.foldl_cons, ← e']
    simp only [impl_kept.l1]
    rw [if_pos (by omega), if_pos (by omega), if_pos (by omega), rd_get ps j hj, if_pos h0, if_pos h1, wrapS hj (by omega)]
    unfold setB
    by_cases hb : rdOf false N ps[j] = true
    · rw [if_pos hb, if_pos hb]
    · rw [if_neg hb, if_neg hb, if_pos (by omega), if_pos (by omega)]
theorem keep0 (xs : List INode) (hok : okAll xs) (hn : xs.length ≤ 1048576) (root : Nat) (hr : root < xs.length) (R : List Bool) (m : Nat) : ∀ (k1 k2 : Nat) (N : List Bool), N.length = root + 1 → m ≤ root + 1 → 5 * m + 20 < k1 → 5 * m + 20 < k2 →
    ∃ k1' k2' N', k1 ≤ k1' + 4 * m ∧ k2 ≤ k2' + 4 * m ∧ N'.length = root + 1 ∧ spec_exKeep.l0 k1 xs (root : Int) N ((m : Int) - 1) = spec_exKeep.l0 k1' xs (root : Int) N' (-1) ∧ impl_kept.l0 k2 xs (N ++ R) ((m : Int) - 1) = impl_kept.l0 k2' xs (N' ++ R) (-1) := by
  induction m with
  | zero => intro k1 k2 N hN hm h1 h2; exact ⟨k1, k2, N, by omega, by omega, hN, rfl, rfl⟩
  | succ m ih =>
    intro k1 k2 N hN hm h1 h2
    obtain ⟨k1, rfl⟩ : ∃ q, k1 = q + 1 := ⟨k1 - 1, by omega⟩
    obtain ⟨k2, rfl⟩ : ∃ q, k2 = q + 1 := ⟨k2 - 1, by omega⟩
    have hi : m < xs.length := by omega
    have hp : ∀ p ∈ partsOf xs[m], 0 ≤ p ∧ p < N.length := fun p hp => by
      have := parts_lt (hok m hi) p hp
      omega
    have hp' : ∀ p ∈ partsOf xs[m], 0 ≤ p ∧ p < (N ++ R).length := fun p hpp => by
      have := hp p hpp
      rw [List.length_append]
      omega
    have hl : (partsOf xs[m]).length ≤ 2 := parts_len _ _ _
    obtain ⟨q1, hq1, e1⟩ := keep1_s xs (root : Int) m (partsOf xs[m]) hl (partsOf xs[m]).length k1 0 N (by omega) (by omega) hp (by omega)
    obtain ⟨q2, hq2, e2⟩ := keep1_i xs m (partsOf xs[m]) hl (partsOf xs[m]).length k2 0 (N ++ R) (by omega) (by omega) hp' (by rw [List.length_append]; omega)
    rw [List.drop_zero] at e1 e2
    rw [setBs_app (m : Int) R (by omega) _ N hp (by omega)] at e2
    rw [show wrap64 ((m : Int) - 1) = (m : Int) - 1 from wrap64_small (by omega) (by omega)] at e1 e2
    obtain ⟨k1', k2', N', a1, a2, a3, a4, a5⟩ := ih q1 q2 ((partsOf xs[m]).foldl (setB (m : Int)) N) (by rw [setBs_length]; exact hN) (by omega) (by omega) (by omega)
    refine ⟨k1', k2', N', by omega, by omega, a3, ?_, ?_⟩
    · rw [← a4, ← e1, show (((m + 1 : Nat) : Int) - 1) = (m : Int) by omega]
      simp only [spec_exKeep.l0]
      rw [if_pos (by omega), if_pos (by omega), if_pos (by omega), rdI xs m hi, exParts_f k1 (by omega), Option.bind_some]
      rfl
    · rw [← a5, ← e2, show (((m + 1 : Nat) : Int) - 1) = (m : Int) by omega]
      simp only [impl_kept.l0]
      rw [if_pos (by omega), if_pos (by omega), if_pos (by omega), rdI xs m hi, of_f k2 (by omega), Option.bind_some]
      rfl
theorem skip_i (xs : List INode) (hn : xs.length ≤ 1048576) (N : List Bool) (n0 : Nat) (hN : N.length = n0) (q : Nat) (out : List INode) (P : List Int) (hq : n0 + q = xs.length) (d : Nat) : ∀ (k i : Nat), i + d = xs.length → d < k → n0 ≤ i →
    impl_kept.l2 k (N ++ List.replicate q false) out P xs (xs.length : Int) (i : Int) = some out := by
  induction d with
  | zero =>
    intro k i h hk hi
    obtain ⟨k, rfl⟩ : ∃ m, k = m + 1 := ⟨k - 1, by omega⟩
    simp only [impl_kept.l2]
    rw [if_neg (by omega)]
  | succ d ih =>
    intro k i h hk hi
    obtain ⟨k, rfl⟩ : ∃ m, k = m + 1 := ⟨k - 1, by omega⟩
    have hi' : i < xs.length := by omega
    have hf : rdOf false (N ++ List.replicate q false) (i : Int) = false := by
      unfold rdOf
      rw [List.getD_eq_getElem?_getD, Int.toNat_natCast, List.getElem?_append_right (by omega)]
      rw [List.getElem?_replicate]
      split <;> rfl
    simp only [impl_kept.l2]
    rw [if_pos (by omega), if_pos (by omega), if_pos (by omega), if_pos (by rw [List.length_append, List.length_replicate]; omega), hf, if_neg (by decide), wrapS hi' (by omega)]
    exact ih k (i + 1) (by omega) (by omega) (by omega)
theorem keep2 (xs : List INode) (hok : okAll xs) (hn : xs.length ≤ 1048576) (root : Nat) (q : Nat) (hq : root + 1 + q = xs.length) (N : List Bool) (hN : N.length = root + 1) (d : Nat) : ∀ (k1 k2 i : Nat) (P : List Int) (out : List INode), i + d = root + 1 → d + 40 < k1 → d + xs.length + 40 < k2 → P.length = root + 1 → out.length ≤ i →
    ∃ r, spec_exKeep.l2 k1 xs (root : Int) N P out (i : Int) = some r ∧ impl_kept.l2 k2 (N ++ List.replicate q false) out (P ++ List.replicate q 0) xs (xs.length : Int) (i : Int) = some r ∧ r.length ≤ out.length + d := by
  induction d with
  | zero =>
    intro k1 k2 i P out h h1 h2 hP ho
    refine ⟨out, ?_, skip_i xs hn N (root + 1) hN q out _ hq q k2 i (by omega) (by omega) (by omega), by omega⟩
    obtain ⟨k1, rfl⟩ : ∃ m, k1 = m + 1 := ⟨k1 - 1, by omega⟩
    simp only [spec_exKeep.l2]
    rw [if_neg (by omega)]
  | succ d ih =>
    intro k1 k2 i P out h h1 h2 hP ho
    obtain ⟨k1, rfl⟩ : ∃ m, k1 = m + 1 := ⟨k1 - 1, by omega⟩
    obtain ⟨k2, rfl⟩ : ∃ m, k2 = m + 1 := ⟨k2 - 1, by omega⟩
    have hi : i < xs.length := by omega
    have hir : i < root + 1 := by omega
    have hb : rdOf false (N ++ List.replicate q false) (i : Int) = rdOf false N (i : Int) := rdB_app N _ _ (by omega) (by omega)
    have hs : (P ++ List.replicate q 0).set i (out.length : Int) = P.set i (out.length : Int) ++ List.replicate q 0 := by rw [List.set_append, if_pos (by omega)]
    have hPl : (P.set i (out.length : Int)).length = root + 1 := by rw [List.length_set]; exact hP
    have hwS : Unit → wrap64 ((i : Int) + 1) = ((i + 1 : Nat) : Int) := fun _ => wrapS hi (by omega)
    simp only [spec_exKeep.l2, impl_kept.l2]
    rw [if_pos (show (i : Int) ≤ (root : Int) by omega), if_pos (show (0 : Int) ≤ (i : Int) by omega), if_pos (show (i : Int) < (N.length : Int) by omega), if_pos (show (i : Int) < (xs.length : Int) by omega), if_pos (show (0 : Int) ≤ (i : Int) by omega), if_pos (show (i : Int) < (xs.length : Int) by omega), if_pos (show (i : Int) < ((N ++ List.replicate q false).length : Int) by rw [List.length_append]; omega), hb]
    by_cases hc : rdOf false N (i : Int) = true
    · have hm1 := moved_s k1 (by omega) xs[i] (i : Int) (hok i hi) (P.set i (out.length : Int)) (by omega)
      have hm2 := moved_i k2 (by omega) xs[i] (i : Int) (hok i hi) (P.set i (out.length : Int) ++ List.replicate q 0) (by rw [List.length_append]; omega)
      rw [moved_app xs[i] (i : Int) (hok i hi) _ _ (by omega)] at hm2
      obtain ⟨r, e1, e2, e3⟩ := ih k1 k2 (i + 1) (P.set i (out.length : Int)) (out ++ [moved xs[i] (P.set i (out.length : Int))]) (by omega) (by omega) (by omega) hPl (by simp; omega)
      refine ⟨r, ?_, ?_, by simp at e3; omega⟩
      · rw [if_pos hc, if_pos (by omega), Int.toNat_natCast, Option.bind_some, if_pos (by omega), rdI xs i hi, hm1, Option.bind_some, if_pos (by omega), hwS ()]
        exact e1
      · rw [if_pos hc, if_pos (by rw [List.length_append]; omega), Int.toNat_natCast, Option.bind_some, rdI xs i hi, hs, hm2, Option.bind_some, if_pos (by omega), hwS ()]
        exact e2
    · obtain ⟨r, e1, e2, e3⟩ := ih k1 k2 (i + 1) P out (by omega) (by omega) (by omega) hP (by omega)
      refine ⟨r, ?_, ?_, by omega⟩
      · rw [if_neg hc, hwS ()]; exact e1
      · rw [if_neg hc, hwS ()]; exact e2
theorem keep_f (k : Nat) (xs : List INode) (hE : isE xs = true) (root : Nat) (hr : root < xs.length) (hk : 400 < k) : ∃ r, spec_exKeep.f k xs (root : Int) = some r ∧ impl_kept.f k xs (root : Int) = some r ∧ r.length ≤ 24 := by
  obtain ⟨n1, n2, hok⟩ := isE_true hE
  obtain ⟨q, hq⟩ : ∃ q, root + 1 + q = xs.length := ⟨xs.length - (root + 1), by omega⟩
  have hN : ((List.replicate (root + 1) false).set root true).length = root + 1 := by simp
  obtain ⟨k1, k2, N', a1, a2, a3, a4, a5⟩ := keep0 xs hok (by omega) root hr (List.replicate q false) (root + 1) k k ((List.replicate (root + 1) false).set root true) hN (by omega) (by omega) (by omega)
  obtain ⟨k1, rfl⟩ : ∃ m, k1 = m + 1 := ⟨k1 - 1, by omega⟩
  obtain ⟨k2, rfl⟩ : ∃ m, k2 = m + 1 := ⟨k2 - 1, by omega⟩
  obtain ⟨r, e1, e2, e3⟩ := keep2 xs hok (by omega) root q hq N' a3 (root + 1) k1 k2 0 (List.replicate (root + 1) 0) [] (by omega) (by omega) (by omega) (by simp) (by simp)
  have hw : Unit → wrap64 ((root : Int) + 1) = ((root + 1 : Nat) : Int) := fun _ => wrapS hr (by omega)
  rw [show (((root + 1 : Nat) : Int) - 1) = (root : Int) by omega] at a4 a5
  refine ⟨r, ?_, ?_, by simp at e3; omega⟩
  · unfold spec_exKeep.f
    rw [hw (), if_pos (by omega), if_pos (by omega), Option.bind_some, if_pos (by omega), if_pos (by rw [List.length_replicate]; omega), Int.toNat_natCast, Int.toNat_natCast, a4]
    simp only [spec_exKeep.l0]
    rw [if_neg (by omega), hw (), if_pos (by omega), if_pos (by omega), Int.toNat_natCast]
    exact e1
  · unfold impl_kept.f
    have hrep : List.replicate xs.length false = List.replicate (root + 1) false ++ List.replicate q false := by rw [← hq, List.replicate_append_replicate]
    have hrep0 : List.replicate xs.length (0 : Int) = List.replicate (root + 1) 0 ++ List.replicate q 0 := by rw [← hq, List.replicate_append_replicate]
    rw [if_pos (by omega), if_pos (by omega), Option.bind_some, if_pos (by omega), if_pos (by rw [List.length_replicate]; omega), Int.toNat_natCast, Int.toNat_natCast, hrep, List.set_append, if_pos (by simp), a5]
    simp only [impl_kept.l0]
    rw [if_neg (by omega), if_pos (by omega), if_pos (by omega), Int.toNat_natCast, hrep0]
    exact e2
theorem subExpr_same (k : Nat) (xs : List INode) (a : Int) (hk : 4 * xs.length + 460 < k) (hn : xs.length ≤ 1048576) :
    ∃ q, spec_SubExpr.f k xs a = some q ∧ impl_SubExpr.f k xs a = some q ∧ q.1.length ≤ 24 := by
  unfold spec_SubExpr.f impl_SubExpr.f
  rw [good_f k xs (by omega) hn, isExpr_f k xs (by omega) hn, l1In_f, within_f]
  simp only [Option.bind_some]
  by_cases hE : isE xs = true
  · obtain ⟨n1, n2, _⟩ := isE_true hE
    rw [if_pos hE, if_pos hE, show wrap64 ((xs.length : Int) - 1) = (xs.length : Int) - 1 from wrap64_small (by omega) (by omega)]
    by_cases ha : (decide (0 ≤ a) && decide (a ≤ (xs.length : Int) - 1)) = true
    · have ha' : 0 ≤ a ∧ a ≤ (xs.length : Int) - 1 := by simpa using ha
      obtain ⟨root, rfl⟩ : ∃ m : Nat, a = (m : Int) := ⟨a.toNat, by omega⟩
      obtain ⟨r, h1, h2, h3⟩ := keep_f k xs hE root (by omega) (by omega)
      rw [if_pos ha, if_pos ha, h1, h2]
      exact ⟨(r, true), rfl, rfl, h3⟩
    · rw [if_neg ha, if_neg ha]
      exact ⟨([], false), rfl, rfl, by simp⟩
  · rw [if_neg hE, if_neg hE]
    exact ⟨([], false), rfl, rfl, by simp⟩
theorem subExpr_true (xs : List LNode) (a : Int) (hn : xs.length ≤ 9223372036854775807) (hs : ∀ x ∈ xs, x.f0.size ≤ 9223372036854775807) : laws_FnExactSubExpr.f (4 * xs.length + 600) xs a = some true := by
  unfold laws_FnExactSubExpr.f
  obtain ⟨r, hr, _, hl⟩ := szNodeS_f (4 * xs.length + 600) xs 1048576 (by omega) (by omega) hn hs (by omega)
  rw [hr, Option.bind_some]
  by_cases h : r < 0
  · rw [if_pos h]
  · rw [if_neg h]
    have hn2 : xs.length ≤ 1048576 := by have := hl (by omega); omega
    have hn3 : (xs.map convN).length ≤ 1048576 := by simpa using hn2
    have hm : (xs.map convN).length = xs.length := List.length_map ..
    obtain ⟨q, h1, h2, h3⟩ := subExpr_same (4 * xs.length + 600) (xs.map convN) a (by omega) hn3
    obtain ⟨q', g1, g2, _⟩ := subExpr_same (4 * xs.length + 598) (xs.map convN) a (by omega) hn3
    have hqq : q' = q := by
      have e1 := impl_SubExpr.mono (xs.map convN) a (4 * xs.length + 598) _ g2
      have e2 := impl_SubExpr.mono (xs.map convN) a (4 * xs.length + 599) _ e1
      exact Option.some.inj (e2.symm.trans h2)
    rw [hqq] at g2
    obtain ⟨l', b'⟩ := q
    have h3 : l'.length ≤ 24 := h3
    have m1 := markNodeS_m (4 * xs.length + 599) (xs.map convN) 1 (by omega) (by omega) hn3 (by omega)
    have y1 := markNodeS_m (4 * xs.length + 598) l' 1 (by omega) (by omega) (by omega) (by omega)
    have y2 : ∀ k, 100 < k → laws_heldNodeS.f k (marks 1 l'.length) 1 = some (1 + 4 * (l'.length : Int)) := fun k hk => heldNodeS_m k l'.length (by omega) (by omega)
    have j2 : laws_FnExactSubExpr.j2 (4 * xs.length + 598) (marks 1 l'.length) (1 + 4 * (l'.length : Int)) false = some true := by
      rw [show 4 * xs.length + 598 = (4 * xs.length + 597) + 1 by omega]
      simp only [laws_FnExactSubExpr.j2]
      rw [if_neg (by decide), y2 _ (by omega), Option.bind_some, if_neg (by omega), if_pos rfl]
    have j1 : laws_FnExactSubExpr.j1 (4 * xs.length + 599) xs a l' b' l' false = some true := by
      rw [show 4 * xs.length + 599 = (4 * xs.length + 598) + 1 by omega]
      simp only [laws_FnExactSubExpr.j1]
      rw [if_neg (by decide), y1, Option.bind_some]
      dsimp only
      rw [y2 _ (by omega), Option.bind_some, if_neg (by omega), if_pos rfl, toNodeS_f _ xs hn2 (by omega), Option.bind_some, g2, Option.bind_some]
      dsimp only
      rw [eqNodeS_f _ l' (by omega) (by omega), Option.bind_some, if_pos rfl, bne_self_eq_false]
      exact j2
    have j0 : laws_FnExactSubExpr.j0 (4 * xs.length + 600) xs a l' b' (xs.map convN) l' b' false = some true := by
      rw [show 4 * xs.length + 600 = (4 * xs.length + 599) + 1 by omega]
      simp only [laws_FnExactSubExpr.j0]
      rw [if_neg (by decide), toNodeS_f (4 * xs.length + 599) xs hn2 (by omega), Option.bind_some, eqNodeS_f (4 * xs.length + 599) (xs.map convN) hn3 (by omega), Option.bind_some, if_pos rfl, m1, Option.bind_some, if_neg (by omega), eqNodeS_f _ l' (by omega) (by omega), Option.bind_some, if_pos rfl, bne_self_eq_false]
      exact j1
    rw [toNodeS_f (4 * xs.length + 600) xs hn2 (by omega)]
    simp only [Option.bind_some, h1, h2]
    rw [eqNodeS_f _ l' (by omega) (by omega), Option.bind_some, if_pos rfl, bne_self_eq_false]
    exact j0
theorem subExpr_walk (A : Option Addr) (c : Nat) (xs : List LNode) (hl0 : xs.length ≤ c) (W : World) (hr0 : Kd.C k87 W A xs.length xs) (hm0 : xs.length ≤ maxLen) (ho0 : ∀ x ∈ xs, nodeSOk x) (a : Int) (_ : (Lit.int .i64 a).wf = true) :
    Calls Try.prog 4 #[.slice A xs.length c, .int .i64 a] W fun e w' => e = .returned (.bool true) ∧ Below W.heap.size W w' :=
  laws_FnExactSubExpr.calls (4 * xs.length + 600) A c xs a true W hr0 hl0 (subExpr_true xs a (len_ok hm0) (nodes_ok ho0)) rfl
end Go.Proofs.Ytaddadknmipfeaa.PureOps
