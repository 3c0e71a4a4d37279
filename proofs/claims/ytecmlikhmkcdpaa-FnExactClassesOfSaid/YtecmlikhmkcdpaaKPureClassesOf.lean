/- ClassesOf of the program and of the reference agree for all arguments. -/
import Derived.Test.YtecmlikhmkcdpaaKPureTable
import Derived.Test.YtecmlikhmkcdpaaKPureMarksX
import Derived.Test.YtecmlikhmkcdpaaKPureIsExpr0
import Derived.Test.YtecmlikhmkcdpaaILawWalk
namespace Go.Proofs.Ytecmlikhmkcdpaa.PureOps
open Go.RowKit Go.Proofs.Ytecmlikhmkcdpaa.I Go.Proofs.YtecmlikhmkcdpaaW.PrintWords Go.Proofs.YtecmlikhmkcdpaaW.PrintLast Go.Proofs.YtecmlikhmkcdpaaW.PrintMore Go.Proofs.Ytecmlikhmkcdpaa.MKinds
set_option linter.unusedVariables false
set_option linter.unusedSimpArgs false
theorem getD_lt {α : Type} (xs : List α) (i : Nat) (h : i < xs.length) (d : α) : xs.getD i d = xs[i] := by simp [List.getD_eq_getElem?_getD, h]
theorem take_next {α : Type} (xs : List α) (i : Nat) (h : i < xs.length) (d : α) : xs.take (i + 1) = xs.take i ++ [xs.getD i d] := by
  rw [List.take_add_one, getD_lt xs i h d]; simp [h]
def tot (xs : List (List LNode)) (i : Nat) : Nat := ((xs.take i).map List.length).sum
theorem tot_zero (xs : List (List LNode)) : tot xs 0 = 0 := by simp [tot]
theorem tot_step (xs : List (List LNode)) (i : Nat) (h : i < xs.length) : tot xs (i + 1) = tot xs i + (xs.getD i []).length := by
  unfold tot
  rw [take_next xs i h [], List.map_append, List.sum_append]
  simp
theorem tot_up (xs : List (List LNode)) (d : Nat) : ∀ i, i + d ≤ xs.length → tot xs i ≤ tot xs (i + d) := by
  induction d with
  | zero => intro i _; exact Nat.le_refl _
  | succ d ih =>
    intro i h
    have h1 := ih i (by omega)
    have h2 := tot_step xs (i + d) (by omega)
    show tot xs i ≤ tot xs (i + d + 1)
    omega
theorem tot_row (xs : List (List LNode)) (i : Nat) (h : i < xs.length) : (xs.getD i []).length ≤ tot xs xs.length := by
  have h1 := tot_step xs i h
  have h2 := tot_up xs (xs.length - (i + 1)) (i + 1) (by omega)
  rw [show i + 1 + (xs.length - (i + 1)) = xs.length by omega] at h2
  omega
theorem szNodeS_g (k : Nat) (xs : List LNode) (l : Int) (h0 : 0 ≤ l) (h1 : l ≤ 1048576) (hn : xs.length ≤ 9223372036854775807) (hs : ∀ x ∈ xs, x.f0.size ≤ 9223372036854775807) (hk : xs.length < k) :
    ∃ r, laws_szNodeS.f k xs l = some r ∧ (0 ≤ r → r + (xs.length : Int) ≤ l) := by
  unfold laws_szNodeS.f
  rw [wrap64_small (by omega) (by omega)]
  by_cases h : l - (xs.length : Int) < 0
  · exact ⟨-1, by rw [if_pos h], fun h => by omega⟩
  · rw [if_neg h]
    exact some_loop (fun k s i => laws_szNodeS.l0 k xs s i) xs.length hn 0 (fun i s => 0 ≤ s ∧ s ≤ l - (xs.length : Int)) (fun r => 0 ≤ r → r + (xs.length : Int) ≤ l)
      (fun k i s _ hi hI => by
        have hz := szNode_f xs[i].f0 xs[i].f1 xs[i].f2 xs[i].f3 s hI.1 (by omega) (hs _ (List.getElem_mem hi))
        by_cases h : s - (xs[i].f0.size : Int) < 0
        · left
          refine ⟨-1, ?_, fun h => by omega⟩
          simp only [laws_szNodeS.l0]
          rw [if_pos (by omega), if_pos (by omega), rdL xs i hi, hz, if_pos h, Option.bind_some, if_pos (by omega)]
        · right
          refine ⟨s - (xs[i].f0.size : Int), ?_, by omega, by omega⟩
          simp only [laws_szNodeS.l0]
          rw [if_pos (by omega), if_pos (by omega), rdL xs i hi, hz, if_neg h, Option.bind_some, if_neg h])
      (fun k s _ hI => ⟨s, by simp only [laws_szNodeS.l0]; rw [if_neg (by omega)], fun _ => by omega⟩) xs.length k 0 (l - (xs.length : Int)) (by omega) (by omega) ⟨by omega, by omega⟩
theorem szNodeSS_f (k M : Nat) (xs : List (List LNode)) (hn : xs.length ≤ 9223372036854775807) (hM : ∀ i, i < xs.length → (xs.getD i []).length ≤ M) (hr : ∀ i, i < xs.length → (xs.getD i []).length ≤ 9223372036854775807) (hs : ∀ i, i < xs.length → ∀ x ∈ xs.getD i [], x.f0.size ≤ 9223372036854775807) (hk : M + 1 + xs.length < k) :
    ∃ r, laws_szNodeSS.f k xs 1048576 = some r ∧ (0 ≤ r → r + (tot xs xs.length : Int) + (xs.length : Int) ≤ 1048576) := by
  unfold laws_szNodeSS.f
  rw [wrap64_small (by omega) (by omega)]
  by_cases h : 1048576 - (xs.length : Int) < 0
  · exact ⟨-1, by rw [if_pos h], fun h => by omega⟩
  · rw [if_neg h]
    exact some_loop (fun k s i => laws_szNodeSS.l0 k xs s i) xs.length hn (M + 1) (fun i s => 0 ≤ s ∧ s + (tot xs i : Int) + (xs.length : Int) ≤ 1048576) (fun r => 0 ≤ r → r + (tot xs xs.length : Int) + (xs.length : Int) ≤ 1048576)
      (fun k i s hk hi hI => by
        obtain ⟨r, h1, h2⟩ := szNodeS_g k (xs.getD i []) s hI.1 (by omega) (hr i hi) (hs i hi) (by have := hM i hi; omega)
        have h3 := tot_step xs i hi
        by_cases h : r < 0
        · left
          refine ⟨-1, ?_, fun h => by omega⟩
          simp only [laws_szNodeSS.l0]
          rw [if_pos (by omega), if_pos (by omega), show rd_L3 xs (i : Int) = xs.getD i [] from rfl, h1, Option.bind_some, if_pos h]
        · right
          refine ⟨r, ?_, by omega, by omega⟩
          simp only [laws_szNodeSS.l0]
          rw [if_pos (by omega), if_pos (by omega), show rd_L3 xs (i : Int) = xs.getD i [] from rfl, h1, Option.bind_some, if_neg h])
      (fun k s _ hI => ⟨s, by simp only [laws_szNodeSS.l0]; rw [if_neg (by omega)], fun _ => hI.2⟩) xs.length k 0 (1048576 - (xs.length : Int)) (by omega) (by omega) ⟨by omega, by rw [tot_zero]; omega⟩
def convS (xs : List (List LNode)) : List (List INode) := xs.map (fun r => r.map convN)
theorem convS_length (xs : List (List LNode)) : (convS xs).length = xs.length := List.length_map ..
theorem convS_row (xs : List (List LNode)) (i : Nat) (h : i < xs.length) : (convS xs).getD i [] = (xs.getD i []).map convN := by
  rw [getD_lt _ i (by rw [convS_length]; exact h), getD_lt _ i h]
  simp [convS]
theorem toNodeSS_f (k M : Nat) (xs : List (List LNode)) (hn : xs.length ≤ 1048576) (hM : ∀ i, i < xs.length → (xs.getD i []).length ≤ M) (hM2 : M ≤ 1048576) (hk : M + 1 + xs.length < k) : laws_toNodeSS.f k xs = some (convS xs) := by
  unfold laws_toNodeSS.f
  rw [if_pos (by omega), if_pos (by omega)]
  obtain ⟨r, hr, hq⟩ := some_loop (fun k (s : List (List INode)) i => laws_toNodeSS.l0 k xs s i) xs.length (by omega) (M + 1) (fun i s => s.length = xs.length ∧ ∀ j, j < i → s[j]? = some ((xs.getD j []).map convN)) (fun r => r = convS xs)
    (fun k i s hk hi hI => .inr ⟨s.set i ((xs.getD i []).map convN), by
      simp only [laws_toNodeSS.l0]
      rw [if_pos (by omega), if_pos (by omega), show rd_L3 xs (i : Int) = xs.getD i [] from rfl, toNodeS_f k _ (by have := hM i hi; omega) (by have := hM i hi; omega), Option.bind_some, if_pos (by omega), Int.toNat_natCast], by simp [hI.1], fun j hj => by
      by_cases e : j = i
      · subst e
        rw [List.getElem?_set_self (by omega)]
      · rw [List.getElem?_set_ne (fun h => e h.symm)]
        exact hI.2 j (by omega)⟩)
    (fun k s _ hI => ⟨s, by simp only [laws_toNodeSS.l0]; rw [if_neg (by omega)], by
      apply List.ext_getElem?
      intro j
      by_cases hj : j < xs.length
      · rw [hI.2 j hj, getD_lt xs j hj]; simp [convS, hj]
      · rw [List.getElem?_eq_none (by omega), List.getElem?_eq_none (by rw [convS_length]; omega)]⟩) xs.length k 0 (List.replicate ((xs.length : Int) : Int).toNat []) (by omega) (by omega) ⟨by simp, fun j hj => by omega⟩
  rw [← hq]
  exact hr
theorem eqNodeSS_f (k M : Nat) (xs : List (List INode)) (hn : xs.length ≤ 1048576) (hM : ∀ i, i < xs.length → (xs.getD i []).length ≤ M) (hM2 : M ≤ 1048576) (hk : M + 1 + xs.length < k) : laws_eqNodeSS.f k xs xs = some true := by
  unfold laws_eqNodeSS.f
  rw [if_pos rfl]
  obtain ⟨r, hr, hq⟩ := some_loop (fun k (_ : Unit) i => laws_eqNodeSS.l0 k xs xs i) xs.length (by omega) (M + 1) (fun _ _ => True) (fun r => r = true)
    (fun k i s hk hi _ => .inr ⟨(), by
      simp only [laws_eqNodeSS.l0]
      rw [if_pos (by omega), if_pos (by omega), if_pos (by omega), show rd_L5 xs (i : Int) = xs.getD i [] from rfl, eqNodeS_f k _ (by have := hM i hi; omega) (by have := hM i hi; omega), Option.bind_some, if_pos rfl], trivial⟩)
    (fun k s _ _ => ⟨true, by simp only [laws_eqNodeSS.l0]; rw [if_neg (by omega)], rfl⟩) xs.length k 0 () (by omega) (by omega) trivial
  rw [← hq]
  exact hr
theorem same_all (a b : List Int) (h : a.length = b.length) : (List.range a.length).all (fun i => decide (rd a (i : Int) = rd b (i : Int))) = decide (a = b) := by
  by_cases e : a = b
  · subst e
    simp
  · rw [decide_eq_false e, Bool.eq_false_iff]
    intro hall
    apply e
    apply List.ext_getElem h
    intro i h1 h2
    have h3 := List.all_eq_true.1 hall i (List.mem_range.2 h1)
    rw [decide_eq_true_eq, rd_get a i h1, rd_get b i h2] at h3
    exact h3
theorem l1Same_f (k : Nat) (a b : List Int) (ha : a.length ≤ 1048576) (hk : a.length < k) : spec_l1Same.f k a b = some (decide (a = b)) := by
  unfold spec_l1Same.f
  by_cases h : a.length = b.length
  · rw [if_pos (by omega)]
    have t := all_loop (fun k i => spec_l1Same.l0 k a b (a.length : Int) i) a.length (by omega) 0 (fun i => decide (rd a (i : Int) = rd b (i : Int))) false (fun _ => some true) true
      (fun k i _ hi => by
        simp only [spec_l1Same.l0]
        rw [if_pos (by omega), if_pos (by omega), if_pos (by omega), if_pos (by omega)]
        by_cases e : rd a (i : Int) = rd b (i : Int)
        · rw [if_pos e, if_pos (decide_eq_true e)]
        · rw [if_neg e, if_neg (by rw [decide_eq_false e]; decide)])
      (fun k => by simp only [spec_l1Same.l0]; rw [if_neg (by omega)]) (fun _ _ => rfl) a.length k 0 (by omega) (by omega)
    rw [List.drop_zero, same_all a b h] at t
    refine Eq.trans t ?_
    cases decide (a = b) <;> rfl
  · rw [if_neg (by omega), decide_eq_false (fun e => h (by rw [e]))]
theorem slEqual_f (k : Nat) (a b : List Int) (ha : a.length ≤ 1048576) (hk : a.length < k) : slices_Equal_int_int.f k a b = some (decide (a = b)) := by
  unfold slices_Equal_int_int.f
  by_cases h : a.length = b.length
  · rw [if_pos (by omega)]
    have t := all_loop (fun k i => slices_Equal_int_int.l0 k a b (a.length : Int) i) a.length (by omega) 0 (fun i => decide (rd a (i : Int) = rd b (i : Int))) false (fun _ => some true) true
      (fun k i _ hi => by
        simp only [slices_Equal_int_int.l0]
        rw [if_pos (by omega), if_pos (by omega), if_pos (by omega), if_pos (by omega)]
        by_cases e : rd a (i : Int) = rd b (i : Int)
        · rw [if_pos e, if_pos (decide_eq_true e)]
        · rw [if_neg e, if_neg (by rw [decide_eq_false e]; decide)])
      (fun k => by simp only [slices_Equal_int_int.l0]; rw [if_neg (by omega)]) (fun _ _ => rfl) a.length k 0 (by omega) (by omega)
    rw [List.drop_zero, same_all a b h] at t
    refine Eq.trans t ?_
    cases decide (a = b) <;> rfl
  · rw [if_neg (by omega), decide_eq_false (fun e => h (by rw [e]))]
/-- The place of the first table that is table i. -/
def cls (T : List (List Int)) (i : Nat) : Nat := T.findIdx (fun a => decide (a = T.getD i []))
theorem cls_eq {T : List (List Int)} {i m : Nat} (hm : m < T.length) (h1 : T.getD m [] = T.getD i []) (h2 : ∀ q, q < m → T.getD q [] ≠ T.getD i []) : cls T i = m := by
  unfold cls
  rw [List.findIdx_eq hm]
  refine ⟨decide_eq_true (by rw [← getD_lt T m hm []]; exact h1), fun j hj => decide_eq_false (by rw [← getD_lt T j (by omega) []]; exact h2 j hj)⟩
theorem c2_f (k : Nat) (t : List Int) (P : List (List Int)) (hP : 0 < P.length) (hP2 : P.length ≤ 100) (ht : t.length ≤ 5000) (hk : 5000 < k) : impl_ClassesOf_c2_v.f k t P = some (decide (t = P.getD (P.length - 1) [])) := by
  unfold impl_ClassesOf_c2_v.f
  rw [wrap64_small (by omega) (by omega), if_pos (by omega), if_pos (by omega), show rd_L6 P ((P.length : Int) - 1) = P.getD (P.length - 1) [] from by unfold rd_L6; congr 1; omega, slEqual_f k _ _ (by omega) (by omega), Option.bind_some]
theorem idx_f (k : Nat) (T P : List (List Int)) (i : Nat) (hi : i < T.length) (hP : P = T.take (i + 1)) (hT : T.length ≤ 8) (hrow : ∀ j, (T.getD j []).length ≤ 5000) (hk : 5100 < k) : slices_IndexFunc_int_int_impl_ClassesOf_c2.f k P P = some (cls T i : Int) := by
  have hl : P.length = i + 1 := by rw [hP, List.length_take]; omega
  have hg : ∀ q, q < i + 1 → P.getD q [] = T.getD q [] := fun q hq => by
    rw [getD_lt P q (by omega), getD_lt T q (by omega)]
    subst hP
    rw [List.getElem_take]
  unfold slices_IndexFunc_int_int_impl_ClassesOf_c2.f
  obtain ⟨r, hr, hq⟩ := some_loop (fun k (_ : Unit) j => slices_IndexFunc_int_int_impl_ClassesOf_c2.l0 k P P (P.length : Int) j) P.length (by omega) 5001 (fun j _ => j ≤ i ∧ ∀ q, q < j → T.getD q [] ≠ T.getD i []) (fun r => r = (cls T i : Int))
    (fun k j s hk hj hI => by
      have hc := c2_f k (P.getD j []) P (by omega) (by omega) (by rw [hg j (by omega)]; exact hrow j) (by omega)
      rw [show P.length - 1 = i by omega, hg j (by omega), hg i (by omega)] at hc
      have hb : slices_IndexFunc_int_int_impl_ClassesOf_c2.l0 (k + 1) P P (P.length : Int) (j : Int) = if decide (T.getD j [] = T.getD i []) = true then some (j : Int) else slices_IndexFunc_int_int_impl_ClassesOf_c2.l0 k P P (P.length : Int) (wrap64 ((j : Int) + 1)) := by
        simp only [slices_IndexFunc_int_int_impl_ClassesOf_c2.l0]
        rw [if_pos (by omega), if_pos (by omega), if_pos (by omega), show rd_L6 P (j : Int) = P.getD j [] from rfl, hg j (by omega), hc, Option.bind_some]
      by_cases e : T.getD j [] = T.getD i []
      · left
        exact ⟨(j : Int), by rw [hb, if_pos (decide_eq_true e)], by rw [cls_eq (by omega) e hI.2]⟩
      · right
        refine ⟨(), by rw [hb, if_neg (by rw [decide_eq_false e]; decide)], ?_, fun q hq => ?_⟩
        · have : j ≠ i := fun h => e (by rw [h])
          omega
        · by_cases h : q = j
          · subst h; exact e
          · exact hI.2 q (by omega))
    (fun k s _ hI => absurd hI.1 (by omega)) P.length k 0 () (by omega) (by omega) ⟨by omega, fun q hq => by omega⟩
  rw [← hq]
  exact hr
theorem spec_dn (T : List (List Int)) (u : List Int) (i : Nat) (hi : i < T.length) (hT : T.length ≤ 8) (hrow : ∀ j, (T.getD j []).length ≤ 5000) (hu : u.length ≤ 100) (k : Nat) (hk : 5100 < k) : ∀ (j m : Nat), j ≤ i → m ≤ i → T.getD m [] = T.getD i [] → (∀ q, j ≤ q → q < m → T.getD q [] ≠ T.getD i []) →
    spec_ClassesOf.l2 (k + j + 1) T u (T.getD i []) (m : Int) ((j : Int) - 1) T (T.length : Int) (i : Int) = spec_ClassesOf.l1 k T (u ++ [(cls T i : Int)]) T (T.length : Int) (wrap64 ((i : Int) + 1)) := by
  intro j
  induction j with
  | zero =>
    intro m hj hm h1 h2
    simp only [Nat.add_zero, spec_ClassesOf.l2]
    rw [if_neg (by omega), if_pos (by omega), cls_eq (by omega) h1 (fun q hq => h2 q (by omega) hq)]
  | succ j ih =>
    intro m hj hm h1 h2
    rw [show k + (j + 1) + 1 = (k + j + 1) + 1 by omega, show ((j + 1 : Nat) : Int) - 1 = (j : Int) by omega]
    simp only [spec_ClassesOf.l2]
    rw [if_pos (by omega), if_pos (by omega), if_pos (by omega), show rd_L6 T (j : Int) = T.getD j [] from rfl, l1Same_f _ _ _ (by have := hrow j; omega) (by have := hrow j; omega), Option.bind_some, wrap64_small (n := (j : Int) - 1) (by omega) (by omega)]
    by_cases e : T.getD j [] = T.getD i []
    · rw [if_pos (decide_eq_true e)]
      exact ih j (by omega) (by omega) e (fun q h3 h4 => by omega)
    · rw [if_neg (by rw [decide_eq_false e]; decide)]
      refine ih m (by omega) hm h1 (fun q h3 h4 => ?_)
      by_cases h : q = j
      · subst h; exact e
      · exact h2 q (by omega) h4
def clss (T : List (List Int)) (n : Nat) : List Int := (List.range n).map (fun j => (cls T j : Int))
theorem clss_length (T : List (List Int)) (n : Nat) : (clss T n).length = n := by simp [clss]
theorem clss_step (T : List (List Int)) (n : Nat) : clss T (n + 1) = clss T n ++ [(cls T n : Int)] := by simp [clss, List.range_succ]
theorem spec_l1_f (T : List (List Int)) (hT : T.length ≤ 8) (hrow : ∀ j, (T.getD j []).length ≤ 5000) (d : Nat) : ∀ (k i : Nat), i + d = T.length → 5200 + 20 * d < k → spec_ClassesOf.l1 k T (clss T i) T (T.length : Int) (i : Int) = some (clss T T.length, true) := by
  induction d with
  | zero =>
    intro k i h hk
    obtain ⟨k, rfl⟩ : ∃ m, k = m + 1 := ⟨k - 1, by omega⟩
    simp only [spec_ClassesOf.l1]
    obtain rfl : i = T.length := by omega
    rw [if_neg (by omega)]
  | succ d ih =>
    intro k i h hk
    obtain ⟨k, rfl⟩ : ∃ m, k = m + i + 1 + 1 := ⟨k - i - 2, by omega⟩
    simp only [spec_ClassesOf.l1]
    rw [if_pos (by omega), if_pos (by omega), if_pos (by omega), show rd_L6 T (i : Int) = T.getD i [] from rfl, wrap64_small (n := (i : Int) - 1) (by omega) (by omega)]
    rw [spec_dn T (clss T i) i (by omega) hT hrow (by rw [clss_length]; omega) k (by omega) i i (by omega) (by omega) rfl (fun q h3 h4 => by omega), ← clss_step, wrapS (n := T.length) (by omega) (by omega)]
    exact ih k (i + 1) (by omega) (by omega)
noncomputable def tabs (xs : List (List INode)) : List (List Int) := xs.map tableL
theorem tabs_length (xs : List (List INode)) : (tabs xs).length = xs.length := List.length_map ..
theorem tabs_row (xs : List (List INode)) (j : Nat) : ((tabs xs).getD j []).length ≤ 5000 := by
  by_cases h : j < xs.length
  · rw [getD_lt _ j (by rw [tabs_length]; exact h)]
    simp only [tabs, List.getElem_map, tableL_length]
    omega
  · rw [List.getD_eq_getElem?_getD, List.getElem?_eq_none (by rw [tabs_length]; omega)]
    simp
theorem tabs_take (xs : List (List INode)) (i : Nat) (h : i < xs.length) : tabs (xs.take i) ++ [tableL (xs.getD i [])] = tabs (xs.take (i + 1)) := by
  rw [take_next xs i h []]
  simp [tabs]
def sized (xs : List (List INode)) (M : Nat) : Prop := ∀ i, i < xs.length → (xs.getD i []).length ≤ M
theorem spec_l0_f (xs : List (List INode)) (M : Nat) (hn : xs.length ≤ 8) (hM : sized xs M) (hM2 : M ≤ 1048576) (d : Nat) : ∀ (k i : Nat), i + d = xs.length → 4 * M + 8000 + d < k →
    spec_ClassesOf.l0 k (tabs (xs.take i)) xs (xs.length : Int) (i : Int) = some (if (xs.drop i).all isE = true then (clss (tabs xs) xs.length, true) else ([], false)) := by
  induction d with
  | zero =>
    intro k i h hk
    obtain ⟨k, rfl⟩ : ∃ m, k = m + 1 := ⟨k - 1, by omega⟩
    obtain rfl : i = xs.length := by omega
    simp only [spec_ClassesOf.l0]
    rw [if_neg (by omega), List.take_length, List.drop_length]
    have h1 := spec_l1_f (tabs xs) (by rw [tabs_length]; exact hn) (tabs_row xs) (tabs xs).length k 0 (by omega) (by rw [tabs_length]; omega)
    rw [show clss (tabs xs) 0 = ([] : List Int) from rfl] at h1
    refine Eq.trans h1 ?_
    rw [tabs_length]
    rfl
  | succ d ih =>
    intro k i h hk
    obtain ⟨k, rfl⟩ : ∃ m, k = m + 1 := ⟨k - 1, by omega⟩
    have hi : i < xs.length := by omega
    have hMi := hM i hi
    simp only [spec_ClassesOf.l0]
    rw [if_pos (by omega), if_pos (by omega), if_pos (by omega), show rd_L5 xs (i : Int) = xs.getD i [] from rfl, good_f k _ (by omega) (by omega), Option.bind_some, List.drop_eq_getElem_cons hi, List.all_cons, ← getD_lt xs i hi []]
    by_cases e : isE (xs.getD i []) = true
    · rw [if_pos e, (table_f k _ e (by omega)).1, Option.bind_some, if_pos (by rw [tabs_length, List.length_take]; omega), tabs_take xs i hi, wrapS (n := xs.length) hi (by omega), ih k (i + 1) (by omega) (by omega), e, Bool.true_and]
    · rw [if_neg e, Bool.eq_false_iff.mpr e, Bool.false_and]
      rfl
theorem c1_f (k : Nat) (r : List INode) (hk : 4 * r.length + 60 < k) (hn : r.length ≤ 1048576) : impl_ClassesOf_c1.f k r = some (!isE r) := by
  unfold impl_ClassesOf_c1.f
  rw [isExpr_f k r hk hn, Option.bind_some]
theorem cont_f (k M : Nat) (xs : List (List INode)) (hn : xs.length ≤ 8) (hM : sized xs M) (hM2 : M ≤ 1048576) (hk : 4 * M + 100 < k) : impl_Node_impl_ClassesOf_c1_210.f k xs = some (!(xs.all isE)) := by
  unfold impl_Node_impl_ClassesOf_c1_210.f impl_Node_impl_ClassesOf_c1_211.f
  obtain ⟨r, hr, hq⟩ := some_loop (fun k (_ : Unit) j => impl_Node_impl_ClassesOf_c1_211.l0 k xs (xs.length : Int) j) xs.length (by omega) (4 * M + 70) (fun j _ => ∀ q, q < j → isE (xs.getD q []) = true) (fun r => decide (r ≥ 0) = !(xs.all isE))
    (fun k j s hk hj hI => by
      have hMj := hM j hj
      have hb : impl_Node_impl_ClassesOf_c1_211.l0 (k + 1) xs (xs.length : Int) (j : Int) = if (!isE (xs.getD j [])) = true then some (j : Int) else impl_Node_impl_ClassesOf_c1_211.l0 k xs (xs.length : Int) (wrap64 ((j : Int) + 1)) := by
        simp only [impl_Node_impl_ClassesOf_c1_211.l0]
        rw [if_pos (by omega), if_pos (by omega), if_pos (by omega), show rd_L5 xs (j : Int) = xs.getD j [] from rfl, c1_f k _ (by omega) (by omega), Option.bind_some]
      by_cases e : isE (xs.getD j []) = true
      · right
        refine ⟨(), by rw [hb, e, if_neg (by decide)], fun q hq => ?_⟩
        by_cases h : q = j
        · subst h; exact e
        · exact hI q (by omega)
      · left
        have hf : xs.all isE = false := by
          rw [Bool.eq_false_iff]
          intro hall
          apply e
          rw [getD_lt xs j hj]
          exact List.all_eq_true.1 hall _ (List.getElem_mem hj)
        exact ⟨(j : Int), by rw [hb, Bool.eq_false_iff.mpr e, if_pos (by decide)], by rw [hf, decide_eq_true (by omega)]; rfl⟩)
    (fun k s _ hI => ⟨-1, by simp only [impl_Node_impl_ClassesOf_c1_211.l0]; rw [if_neg (by omega)], by
      have ht : xs.all isE = true := List.all_eq_true.2 (fun x hx => by
        obtain ⟨q, hq, rfl⟩ := List.mem_iff_getElem.1 hx
        rw [← getD_lt xs q hq []]
        exact hI q hq)
      rw [ht]
      rfl⟩) xs.length k 0 () (by omega) (by omega) (fun q hq => by omega)
  rw [show impl_Node_impl_ClassesOf_c1_211.l0 k xs (xs.length : Int) 0 = some r from hr, Option.bind_some, hq]
theorem impl_l0_f (xs : List (List INode)) (M : Nat) (hn : xs.length ≤ 8) (hM : sized xs M) (hM2 : M ≤ 1048576) (hE : xs.all isE = true) (d : Nat) : ∀ (k i : Nat), i + d = xs.length → 4 * M + 8000 + d < k →
    impl_ClassesOf.l0 k (tabs (xs.take i)) (clss (tabs xs) i) xs (xs.length : Int) (i : Int) = some (clss (tabs xs) xs.length, true) := by
  induction d with
  | zero =>
    intro k i h hk
    obtain ⟨k, rfl⟩ : ∃ m, k = m + 1 := ⟨k - 1, by omega⟩
    obtain rfl : i = xs.length := by omega
    simp only [impl_ClassesOf.l0]
    rw [if_neg (by omega)]
  | succ d ih =>
    intro k i h hk
    obtain ⟨k, rfl⟩ : ∃ m, k = m + 1 := ⟨k - 1, by omega⟩
    have hi : i < xs.length := by omega
    have e : isE (xs.getD i []) = true := by
      rw [getD_lt xs i hi]
      exact List.all_eq_true.1 hE _ (List.getElem_mem hi)
    simp only [impl_ClassesOf.l0]
    rw [if_pos (by omega), if_pos (by omega), if_pos (by omega), show rd_L5 xs (i : Int) = xs.getD i [] from rfl, (table_f k _ e (by omega)).2, Option.bind_some, if_pos (by rw [tabs_length, List.length_take]; omega), tabs_take xs i hi, Option.bind_some,
      idx_f k (tabs xs) (tabs (xs.take (i + 1))) i (by rw [tabs_length]; exact hi) (by simp [tabs, List.map_take]) (by rw [tabs_length]; exact hn) (tabs_row xs) (by omega), Option.bind_some, if_pos (by rw [clss_length]; omega), ← clss_step, wrapS (n := xs.length) hi (by omega)]
    exact ih k (i + 1) (by omega) (by omega)
open Classical in
noncomputable def classes (xs : List (List INode)) : List Int × Bool := if 1 ≤ xs.length ∧ xs.length ≤ 8 ∧ xs.all isE = true then (clss (tabs xs) xs.length, true) else ([], false)
theorem classes_small (xs : List (List INode)) : (classes xs).1.length ≤ 8 := by
  unfold classes
  split
  · rename_i h
    show (clss (tabs xs) xs.length).length ≤ 8
    rw [clss_length]
    exact h.2.1
  · simp
theorem classes_same (k M : Nat) (xs : List (List INode)) (hM : sized xs M) (hM2 : M ≤ 1048576) (hn : xs.length ≤ 1048576) (hk : 4 * M + 9000 < k) : spec_ClassesOf.f k xs = some (classes xs) ∧ impl_ClassesOf.f k xs = some (classes xs) := by
  unfold spec_ClassesOf.f impl_ClassesOf.f classes
  rw [within_f, l1In_f, Option.bind_some, Option.bind_some]
  by_cases hl : 1 ≤ xs.length ∧ xs.length ≤ 8
  · have hb : (decide ((1 : Int) ≤ (xs.length : Int)) && decide ((xs.length : Int) ≤ 8)) = true := by simp; omega
    obtain ⟨k, rfl⟩ : ∃ m, k = m + 1 := ⟨k - 1, by omega⟩
    rw [hb, if_pos rfl, if_pos rfl, cont_f (k + 1) M xs hl.2 hM hM2 (by omega), Option.bind_some]
    have h1 := spec_l0_f xs M hl.2 hM hM2 xs.length (k + 1) 0 (by omega) (by omega)
    rw [List.drop_zero, show tabs (xs.take 0) = ([] : List (List Int)) from rfl] at h1
    refine ⟨Eq.trans h1 ?_, ?_⟩
    · by_cases e : xs.all isE = true
      · rw [if_pos e, if_pos ⟨hl.1, hl.2, e⟩]
      · rw [if_neg e, if_neg (fun h => e h.2.2)]
    · simp only [impl_ClassesOf.j0]
      by_cases e : xs.all isE = true
      · rw [e, if_neg (by decide), if_pos ⟨hl.1, hl.2, rfl⟩]
        exact impl_l0_f xs M hl.2 hM hM2 e xs.length k 0 (by omega) (by omega)
      · rw [Bool.eq_false_iff.mpr e, if_pos (by decide), if_neg (fun h => by simp at h)]
  · have hb : (decide ((1 : Int) ≤ (xs.length : Int)) && decide ((xs.length : Int) ≤ 8)) = false := by
      rw [Bool.eq_false_iff]
      intro h
      simp at h
      omega
    obtain ⟨k, rfl⟩ : ∃ m, k = m + 1 := ⟨k - 1, by omega⟩
    have hc : ¬ (1 ≤ xs.length ∧ xs.length ≤ 8 ∧ xs.all isE = true) := fun h => hl ⟨h.1, h.2.1⟩
    rw [hb, if_neg (show ¬ (false = true) by decide), if_neg (show ¬ (false = true) by decide), if_neg hc]
    exact ⟨rfl, by simp only [impl_ClassesOf.j0]; rw [if_pos trivial]⟩
theorem classesOf_walk (A : Option Addr) (c : Nat) (xs : List (List LNode)) (hl0 : xs.length ≤ c) (W : World) (hr0 : Kd.C (Kd.slice 74 k74) W A xs.length xs) (hm0 : xs.length ≤ maxLen) (ho0 : ∀ x ∈ xs, x.length ≤ maxLen ∧ ∀ y ∈ x, nodeSOk y) :
    Calls Try.prog 8 #[.slice A xs.length c] W fun e w' => e = .returned (.bool true) ∧ Below W.heap.size W w' := by
  have hmem : ∀ i, i < xs.length → xs.getD i [] ∈ xs := fun i hi => by rw [getD_lt xs i hi]; exact List.getElem_mem hi
  obtain ⟨k, hk⟩ : ∃ k, k = 4 * tot xs xs.length + xs.length + 20000 := ⟨_, rfl⟩
  obtain ⟨r, h1, h2⟩ := szNodeSS_f k (tot xs xs.length) xs (len_ok hm0) (tot_row xs) (fun i hi => len_ok (ho0 _ (hmem i hi)).1) (fun i hi => nodes_ok (ho0 _ (hmem i hi)).2) (by omega)
  by_cases h : r < 0
  · exact laws_FnExactClassesOf.hand_neg k A c xs W hr0 hl0 r h1 h
  · have hb := h2 (by omega)
    have hlc := convS_length xs
    have hrow : ∀ i, i < xs.length → ((convS xs).getD i []).length = (xs.getD i []).length := fun i hi => by rw [convS_row xs i hi, List.length_map]
    have hM : sized (convS xs) (tot xs xs.length) := fun i hi => by rw [hrow i (by omega)]; exact tot_row xs i (by omega)
    obtain ⟨s1, s2⟩ := classes_same k (tot xs xs.length) (convS xs) hM (by omega) (by omega) (by omega)
    have s3 := classes_small (convS xs)
    generalize classes (convS xs) = q at s1 s2 s3
    obtain ⟨L, b⟩ := q
    have s3 : L.length ≤ 8 := s3
    obtain ⟨L', m1, m2, m3⟩ := markIntS_f k L (by omega) (by omega)
    rw [← m2] at m3
    have hh := heldIntS_f k L' (by omega) (by omega) m3
    rw [m2] at hh
    exact laws_FnExactClassesOf.hand k A c xs W hr0 hl0 r h1 (by omega) (convS xs) L L' b (1 + (L.length : Int)) (fun i => 1 + 4 * (tot xs i : Int)) (fun i => marks (1 + 4 * (tot xs i : Int)) ((convS xs).getD i []).length)
      (toNodeSS_f k (tot xs xs.length) xs (by omega) (tot_row xs) (by omega) (by omega)) s1 s2 (eqIntS_f k L (by omega) (by omega)) (eqNodeSS_f k (tot xs xs.length) (convS xs) (by omega) hM (by omega) (by omega)) (by simp [tot_zero])
      (fun i hi => by
        have hi' : i < xs.length := by omega
        have t1 := tot_step xs i hi'
        have t2 := tot_up xs (xs.length - i) i (by omega)
        rw [show i + (xs.length - i) = xs.length by omega] at t2
        have t3 := tot_row xs i hi'
        have hr := hrow i hi'
        rw [markNodeS_m k _ (1 + 4 * (tot xs i : Int)) (by omega) (by omega) (by omega) (by omega)]
        simp only [Option.some.injEq, Prod.mk.injEq, and_true]
        omega)
      (by show 0 ≤ 1 + 4 * (tot xs (convS xs).length : Int); omega) m1 hh (by omega)
end Go.Proofs.Ytecmlikhmkcdpaa.PureOps
