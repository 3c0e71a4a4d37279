/- ExprText of the program and of the reference agree for all arguments. -/
import Derived.Test.YtjeklcgflocfoaaDoorQPureTree
import Derived.Test.YtjeklcgflocfoaaDoorQPureNum
import Derived.Test.YtjeklcgflocfoaaDoorJLawsEqNodeS
namespace Go.Proofs.YtjeklcgflocfoaaDoor.PureOps
open Go.RowKit Go.Proofs.YtjeklcgflocfoaaDoor.J Go.Proofs.YtjeklcgflocfoaaDoorW.PrintWords Go.Proofs.YtjeklcgflocfoaaDoorW.PrintLast Go.Proofs.YtjeklcgflocfoaaDoorW.PrintMore Go.Proofs.YtjeklcgflocfoaaDoor.MKinds
set_option linter.unusedVariables false
set_option linter.unusedSimpArgs false
theorem join1 (k : Nat) (t s : ByteArray) (h : t.size ≤ 1000000000000) : strings_Join.f k [t] s = some t := by
  unfold strings_Join.f
  have e : Lib.join ([t].map (·.data.toList)) s.data.toList = t.data.toList := Lib.join_one _ _
  have hl : t.data.toList.length = t.size := by simp
  rw [e, if_pos ⟨by simp, by simp, by omega⟩]
theorem join2 (k : Nat) (t u s : ByteArray) (ht : t.size ≤ 1000000000000) (hu : u.size ≤ 1000000000000) (hs : s.size ≤ 1000) : strings_Join.f k [t, u] s = some ((t ++ s) ++ u) := by
  unfold strings_Join.f
  have e : Lib.join ([t, u].map (·.data.toList)) s.data.toList = t.data.toList ++ s.data.toList ++ u.data.toList := by
    simp [Lib.join, List.intercalate, List.intersperse]
  have hl : (t.data.toList ++ s.data.toList ++ u.data.toList).length = t.size + s.size + u.size := by simp; omega
  rw [e, if_pos ⟨by simp, by simp, by omega⟩]
  refine congrArg some ?_
  apply toList_inj
  rw [toList_data, toList_data]
  simp [ByteArray.data_append]
theorem c1 (x : UInt8) : (⟨#[x]⟩ : ByteArray).size = 1 := rfl
theorem two_short {o : List UInt8} (h : two o = true) : o.length ≤ 4 := by
  simp only [two, opsL, List.any_cons, List.any_nil, Bool.or_false, Bool.or_eq_true, beq_iff_eq] at h
  rcases h with h | h | h | h | h | h | h | h | h | h <;> (subst h; decide)
theorem one_short {o : List UInt8} (h : one o = true) : o.length ≤ 4 := by
  simp only [one, Bool.or_eq_true, beq_iff_eq] at h
  rcases h with h | h <;> (subst h; decide)
theorem leaf_no {o : List UInt8} (h : leaf o = false) : ¬ o = [105, 110] ∧ ¬ o = [99, 111, 110, 115, 116] := by
  simp only [leaf, Bool.or_eq_false_iff, beq_eq_false_iff_ne] at h
  exact h
theorem w01 : wrap64 (0 + 1) = 1 := wrap64_small (by decide) (by decide)
theorem w11 : wrap64 (1 + 1) = 2 := wrap64_small (by decide) (by decide)
theorem text_both (xs : List INode) (hok : okAll xs) (hn : xs.length ≤ 24) : ∀ (i : Nat) (hi : i < xs.length), ∃ t : ByteArray, t.size + 8 ≤ 32 * 2 ^ i ∧ ∀ k, 6 * i + 40 ≤ k →
    spec_exText.f k xs (i : Int) = some t ∧ impl_textAt.f k xs (i : Int) = some t := by
  intro i
  induction i using Nat.strongRecOn with
  | _ i ih =>
  intro hi
  have ho := hok i hi
  have hrd := rdI xs i hi
  have p0 : 1 ≤ 2 ^ i := Nat.one_le_two_pow
  have p1 : 2 ^ i ≤ 2 ^ 23 := Nat.pow_le_pow_right (by omega) (by omega)
  generalize xs[i] = n at ho hrd
  unfold nodeOk at ho
  by_cases hl : leaf n.f0.toList = true
  · rw [if_pos hl] at ho
    simp only [leaf, Bool.or_eq_true, beq_iff_eq] at hl
    rcases hl with hl | hl
    · rw [if_pos hl] at ho
      simp only [Bool.and_eq_true, decide_eq_true_eq, beq_iff_eq] at ho
      have hv := ho.2
      have ns := num_size n.f3 (by omega)
      refine ⟨(⟨#[120]⟩ : ByteArray) ++ num n.f3, by rw [ByteArray.size_append, c1]; omega, fun k hk => ?_⟩
      obtain ⟨m, rfl⟩ : ∃ m, k = m + 6 := ⟨k - 6, by omega⟩
      refine ⟨?_, ?_⟩
      · rw [spec_exText.f]
        simp only [hrd]
        rw [if_pos (by omega), if_pos (by omega), if_pos hl, l1Num_num (m + 5) (by omega) n.f3 hv.1 (by omega), Option.bind_some, if_pos (by omega)]
      · rw [impl_textAt.f]
        simp only [hrd]
        rw [if_pos (by omega), if_pos (by omega), if_pos hl, itoa_num (m + 5) n.f3 hv.1 (by omega), Option.bind_some, if_pos (by omega)]
    · have hl2 : ¬ n.f0.toList = [105, 110] := by rw [hl]; decide
      rw [if_neg hl2] at ho
      simp only [Bool.and_eq_true, decide_eq_true_eq, beq_iff_eq] at ho
      have hv := word_iff.1 ho.2
      have ns := num_size n.f3 (by omega)
      refine ⟨num n.f3, by omega, fun k hk => ?_⟩
      obtain ⟨m, rfl⟩ : ∃ m, k = m + 6 := ⟨k - 6, by omega⟩
      refine ⟨?_, ?_⟩
      · rw [spec_exText.f]
        simp only [hrd]
        rw [if_pos (by omega), if_pos (by omega), if_neg hl2, if_pos hl, l1Num_num (m + 5) (by omega) n.f3 hv.1 (by omega), Option.bind_some]
      · rw [impl_textAt.f]
        simp only [hrd]
        rw [if_pos (by omega), if_pos (by omega), if_neg hl2, if_pos hl, itoa_num (m + 5) n.f3 hv.1 (by omega), Option.bind_some]
  · have hl' : leaf n.f0.toList = false := by simpa using hl
    obtain ⟨n1, n2⟩ := leaf_no hl'
    rw [if_neg hl] at ho
    by_cases h1 : one n.f0.toList = true
    · rw [if_pos h1] at ho
      simp only [Bool.and_eq_true, decide_eq_true_eq, beq_iff_eq] at ho
      obtain ⟨a, ha⟩ := Int.eq_ofNat_of_zero_le ho.1.1.1
      have hai : a < i := by omega
      obtain ⟨t, ht, hT⟩ := ih a hai (by omega)
      have os : n.f0.size ≤ 4 := by rw [← length_toList]; exact one_short h1
      have pa : 2 ^ a * 2 ≤ 2 ^ i := by rw [← Nat.pow_succ]; exact Nat.pow_le_pow_right (by omega) (by omega)
      refine ⟨((n.f0 ++ (⟨#[40]⟩ : ByteArray)) ++ t) ++ (⟨#[41]⟩ : ByteArray), by simp only [ByteArray.size_append, c1]; omega, fun k hk => ?_⟩
      obtain ⟨m, rfl⟩ : ∃ m, k = m + 6 := ⟨k - 6, by omega⟩
      refine ⟨?_, ?_⟩
      · rw [spec_exText.f]
        simp only [hrd]
        rw [if_pos (by omega), if_pos (by omega), if_neg n1, if_neg n2, exOne, Option.bind_some, if_pos h1, if_pos (by omega), ha, (hT (m + 5) (by omega)).1, Option.bind_some, if_pos (by simp only [ByteArray.size_append, c1]; omega), if_pos (by simp only [ByteArray.size_append, c1]; omega)]
      · rw [impl_textAt.f]
        simp only [hrd]
        rw [if_pos (by omega), if_pos (by omega), if_neg n1, if_neg n2, of_f (m + 5) (by omega), Option.bind_some, parts, if_pos h1]
        have q1 : (([n.f1] : List Int).length : Int) = 1 := rfl
        rw [q1, impl_textAt.l0, q1, if_pos (by decide), if_pos (by decide), if_pos (by decide), show rd [n.f1] 0 = (a : Int) from ha, (hT (m + 4) (by omega)).2, Option.bind_some, if_pos (by decide), w01, impl_textAt.l0, if_neg (by decide), if_pos (by omega)]
        rw [show ([] : List ByteArray) ++ [t] = [t] from rfl, join1 _ t _ (by omega), Option.bind_some, if_pos (by simp only [ByteArray.size_append, c1]; omega), if_pos (by simp only [ByteArray.size_append, c1]; omega)]
    · rw [if_neg h1] at ho
      simp only [Bool.and_eq_true, decide_eq_true_eq, beq_iff_eq] at ho
      obtain ⟨⟨⟨h2, ha0, ha1⟩, hb0, hb1⟩, hv⟩ := ho
      obtain ⟨a, ha⟩ := Int.eq_ofNat_of_zero_le ha0
      obtain ⟨b, hb⟩ := Int.eq_ofNat_of_zero_le hb0
      obtain ⟨t, ht, hT⟩ := ih a (by omega) (by omega)
      obtain ⟨u, hu, hU⟩ := ih b (by omega) (by omega)
      have os : n.f0.size ≤ 4 := by rw [← length_toList]; exact two_short h2
      have pa : 2 ^ a * 2 ≤ 2 ^ i := by rw [← Nat.pow_succ]; exact Nat.pow_le_pow_right (by omega) (by omega)
      have pb : 2 ^ b * 2 ≤ 2 ^ i := by rw [← Nat.pow_succ]; exact Nat.pow_le_pow_right (by omega) (by omega)
      refine ⟨((n.f0 ++ (⟨#[40]⟩ : ByteArray)) ++ ((t ++ (⟨#[44]⟩ : ByteArray)) ++ u)) ++ (⟨#[41]⟩ : ByteArray), by simp only [ByteArray.size_append, c1]; omega, fun k hk => ?_⟩
      obtain ⟨m, rfl⟩ : ∃ m, k = m + 6 := ⟨k - 6, by omega⟩
      refine ⟨?_, ?_⟩
      · rw [spec_exText.f]
        simp only [hrd]
        rw [if_pos (by omega), if_pos (by omega), if_neg n1, if_neg n2, exOne, Option.bind_some, if_neg h1, if_pos (by omega), ha, (hT (m + 5) (by omega)).1, Option.bind_some]
        simp only [hb, (hU (m + 5) (by omega)).1, Option.bind_some]
        rw [if_pos (by simp only [ByteArray.size_append, c1]; omega), if_pos (by simp only [ByteArray.size_append, c1]; omega), if_pos (by simp only [ByteArray.size_append, c1]; omega), if_pos (by simp only [ByteArray.size_append, c1]; omega)]
        simp only [ByteArray.append_assoc]
      · rw [impl_textAt.f]
        simp only [hrd]
        rw [if_pos (by omega), if_pos (by omega), if_neg n1, if_neg n2, of_f (m + 5) (by omega), Option.bind_some, parts, if_neg h1, if_pos h2]
        have q2 : (([n.f1, n.f2] : List Int).length : Int) = 2 := rfl
        rw [q2, impl_textAt.l0, q2, if_pos (by decide), if_pos (by decide), if_pos (by decide), show rd [n.f1, n.f2] 0 = (a : Int) from ha, (hT (m + 4) (by omega)).2, Option.bind_some, if_pos (by decide)]
        rw [w01, impl_textAt.l0, q2, if_pos (by decide), if_pos (by decide), if_pos (by decide), show rd [n.f1, n.f2] 1 = (b : Int) from hb, (hU (m + 3) (by omega)).2, Option.bind_some, if_pos (by simp), w11, impl_textAt.l0, if_neg (by decide), if_pos (by omega)]
        rw [show (([] : List ByteArray) ++ [t]) ++ [u] = [t, u] from rfl, join2 _ t u _ (by omega) (by omega) (by rw [c1]; omega), Option.bind_some, if_pos (by simp only [ByteArray.size_append, c1]; omega), if_pos (by simp only [ByteArray.size_append, c1]; omega)]
theorem exprText_true (xs : List LNode) (hn : xs.length ≤ 9223372036854775807) (hs : ∀ x ∈ xs, x.f0.size ≤ 9223372036854775807) : laws_FnExactExprText.f (8 * xs.length + 200) xs = some true := by
  unfold laws_FnExactExprText.f
  obtain ⟨r, hr, _, hl⟩ := szNodeS_f (8 * xs.length + 200) xs 1048576 (by omega) (by omega) hn hs (by omega)
  rw [hr, Option.bind_some]
  by_cases h : r < 0
  · rw [if_pos h]
  · rw [if_neg h]
    have hn2 : xs.length ≤ 1048576 := by have := hl (by omega); omega
    have hn3 : (xs.map convN).length ≤ 1048576 := by simpa using hn2
    have j0 : laws_FnExactExprText.j0 (8 * xs.length + 200) xs (xs.map convN) false = some true := by
      rw [show 8 * xs.length + 200 = (8 * xs.length + 199) + 1 from rfl]
      simp only [laws_FnExactExprText.j0]
      rw [toNodeS_f (8 * xs.length + 199) xs hn2 (by omega), Option.bind_some, eqNodeS_f (8 * xs.length + 199) (xs.map convN) hn3 (by simp; omega)]
      rfl
    rw [toNodeS_f (8 * xs.length + 200) xs hn2 (by omega)]
    simp only [Option.bind_some, spec_ExprText.f, impl_ExprText.f, impl_text.f]
    rw [good_f (8 * xs.length + 200) (xs.map convN) (by simp; omega) hn3, isTreeI_f (8 * xs.length + 200) (xs.map convN) (by simp; omega) hn3]
    cases hc : isE (xs.map convN) with
    | false => simpa using j0
    | true =>
      obtain ⟨e1, e2, e3⟩ := isE_true hc
      simp only [Option.bind_some, if_true, exTree_f (8 * xs.length + 200) (xs.map convN) hc (by simp; omega) hn3]
      cases ho : once (xs.map convN) with
      | false => simpa using j0
      | true =>
        obtain ⟨t, ht, hT⟩ := text_both (xs.map convN) e3 e2 ((xs.map convN).length - 1) (by omega)
        have hw : wrap64 (((xs.map convN).length : Int) - 1) = (((xs.map convN).length - 1 : Nat) : Int) := by
          rw [wrap64_small (by omega) (by omega)]; omega
        have hk := hT (8 * xs.length + 200) (by simp; omega)
        simp only [Bool.and_true, Bool.true_and, if_true, hw, hk.1, hk.2, Option.bind_some]
        simpa using j0
theorem exprText_walk (A : Option Addr) (c : Nat) (xs : List LNode) (hl : xs.length ≤ c) (W : World) (hr : Kd.C k79 W A xs.length xs) (hm : xs.length ≤ maxLen) (ho : ∀ x ∈ xs, nodeSOk x) :
    Calls Tryd.prog 6 #[.slice A xs.length c] W fun e w' => e = .returned (.bool true) ∧ Below W.heap.size W w' :=
  laws_FnExactExprText.calls (8 * xs.length + 200) A c xs true W hr hl (exprText_true xs (len_ok hm) (nodes_ok ho)) rfl
end Go.Proofs.YtjeklcgflocfoaaDoor.PureOps
