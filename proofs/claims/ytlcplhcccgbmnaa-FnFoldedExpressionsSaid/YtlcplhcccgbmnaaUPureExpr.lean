/- Expressions: sizes, copies, and which lists of nodes are expressions, as the program and the reference tell them. Plain. -/
import Derived.Test.YtlcplhcccgbmnaaULoops
import Derived.Test.YtlcplhcccgbmnaaUPureOps
import Derived.Test.YtlcplhcccgbmnaaDAll
namespace Go.Proofs.Ytlcplhcccgbmnaa.PureOps
open Go.RowKit Go.Proofs.Ytlcplhcccgbmnaa.D Go.Proofs.YtlcplhcccgbmnaaW.PrintWords Go.Proofs.YtlcplhcccgbmnaaW.PrintLast Go.Proofs.YtlcplhcccgbmnaaW.PrintMore
set_option linter.unusedVariables false
set_option linter.unusedSimpArgs false

abbrev INode := S47
theorem rdI (xs : List INode) (i : Nat) (h : i < xs.length) : rd_T47 xs (i : Int) = xs[i] := by
 unfold rd_T47
 simp [List.getD_eq_getElem?_getD, h]

theorem within_f (x l h : Int) : impl_within.f x l h = some (decide (l ≤ x) && decide (x ≤ h)) := by
 unfold impl_within.f
 by_cases e : l ≤ x <;> simp [e]
theorem l1In_f (x l h : Int) : spec_l1In.f x l h = some (decide (l ≤ x) && decide (x ≤ h)) := by
 unfold spec_l1In.f
 by_cases e : l ≤ x <;> simp [e]
theorem exWord_f (n : Int) : spec_exWord.f n = some (word n) := by
 unfold spec_exWord.f word
 rw [l1In_f]; rfl
theorem isWord_f (n : Int) : impl_isWord.f n = some (word n) := by
 unfold impl_isWord.f word
 rw [within_f]; rfl
/-- The operands of a node. -/
def parts (o : List UInt8) (a b : Int) : List Int := if one o then [a] else if two o then [a, b] else []
theorem exParts_f (k : Nat) (hk : 10 < k) (o : ByteArray) (a b v : Int) : spec_exParts.f k o a b v = some (parts o.toList a b) := by
 unfold spec_exParts.f parts
 rw [exOne, Option.bind_some, exTwo k hk]
 cases one o.toList <;> cases two o.toList <;> rfl
theorem of_f (k : Nat) (hk : 12 < k) (o : ByteArray) (a b v : Int) : impl_Node_of.f k o a b v = some (parts o.toList a b) := by
 unfold impl_Node_of.f parts
 rw [operands_f k hk]
 simp only [Option.bind_some]
 by_cases h1 : one o.toList = true
 ·rw [ops_one.2 h1, if_pos h1]; rfl
 ·rw [if_neg h1]
  by_cases h2 : two o.toList = true
  ·rw [ops_two.2 h2, if_pos h2]; rfl
  ·rw [if_neg h2]
   have h3 : mx (ops o.toList) 0 = 0 := by
    have := (ops_lt o.toList).2 ⟨by simpa using h1, by simpa using h2⟩
    unfold mx
    split <;> omega
   rw [h3]; rfl
/-- A node is right at an index. -/
def nodeOk (o : List UInt8) (a b v i : Int) : Bool :=
 if leaf o then a == 0 && b == 0 && (if o = [105, 110] then decide (0 ≤ v) && decide (v ≤ 1) else word v)
 else if one o then (decide (0 ≤ a) && decide (a ≤ i - 1)) && b == 0 && v == 0
 else two o && (decide (0 ≤ a) && decide (a ≤ i - 1)) && (decide (0 ≤ b) && decide (b ≤ i - 1)) && v == 0
theorem exNode_f (k : Nat) (hk : 10 < k) (o : ByteArray) (a b v i : Int) (hi : -9223372036854775807 ≤ i ∧ i ≤ 9223372036854775807) : spec_exNode.f k o a b v i = some (nodeOk o.toList a b v i) := by
 unfold spec_exNode.f nodeOk
 rw [exOne, exTwo k hk, wrap64_small (by omega) (by omega)]
 simp only [l1In_f, exWord_f, Option.bind_some]
 by_cases h1 : o.toList = [105, 110]
 ·rw [if_pos h1, h1]
  simp only [show leaf [105, 110] = true from rfl, if_true]
  by_cases ha : a = 0 <;> by_cases hb : b = 0 <;> simp [ha, hb]
 ·rw [if_neg h1]
  by_cases h2 : o.toList = [99, 111, 110, 115, 116]
  ·rw [if_pos h2, h2]
   simp only [show leaf [99, 111, 110, 115, 116] = true from rfl, if_true]
   by_cases ha : a = 0 <;> by_cases hb : b = 0 <;> simp [ha, hb]
  ·rw [if_neg h2]
   have hl : leaf o.toList = false := by unfold leaf; simp [h1, h2]
   rw [hl]
   simp only [Bool.false_eq_true, if_false]
   cases one o.toList with
   | true =>
    simp only [if_true]
    by_cases hb : b = 0
    ·cases (decide (0 ≤ a) && decide (a ≤ i - 1)) <;> simp [hb]
    ·cases (decide (0 ≤ a) && decide (a ≤ i - 1)) <;> simp [hb]
   | false =>
    cases two o.toList <;> cases (decide (0 ≤ a) && decide (a ≤ i - 1)) <;> cases (decide (0 ≤ b) && decide (b ≤ i - 1)) <;> simp
theorem isNode_f (k : Nat) (hk : 16 < k) (o : ByteArray) (a b v i : Int) (hi : -9223372036854775807 ≤ i ∧ i ≤ 9223372036854775807) : impl_Node_isNode.f k o a b v i = some (nodeOk o.toList a b v i) := by
 unfold impl_Node_isNode.f
 rw [operands_f k (by omega)]
 obtain ⟨k, rfl⟩ : ∃ m, k = m + 3 := ⟨k - 3, by omega⟩
 simp only [Option.bind_some, impl_Node_isNode.l0]
 have w1 : wrap64 (0 + 1) = 1 := by rw [wrap64_small (by omega) (by omega)]; rfl
 have w2 : wrap64 (1 + 1) = 2 := by rw [wrap64_small (by omega) (by omega)]; rfl
 have r0 : rd [a, b] 0 = a := rfl
 have r1 : rd [a, b] 1 = b := rfl
 simp only [w1, w2, r0, r1, List.length_cons, List.length_nil, within_f, isWord_f, Option.bind_some, wrap64_small (show -9223372036854775808 ≤ i - 1 by omega) (show i - 1 ≤ 9223372036854775807 by omega)]
 unfold nodeOk
 by_cases hl : leaf o.toList = true
 ·have ho : ops o.toList = 0 := by unfold ops; rw [if_pos hl]
  rw [ho, if_pos hl]
  have h2 : ¬ o.toList = [105, 110] → o.toList = [99, 111, 110, 115, 116] := by
   intro h; simp only [leaf, Bool.or_eq_true, beq_iff_eq] at hl; exact hl.resolve_left h
  by_cases ha : a = 0 <;> by_cases hb : b = 0 <;> by_cases hin : o.toList = [105, 110] <;> simp_all
 ·rw [if_neg hl]
  have hl1 : ¬ o.toList = [105, 110] := fun e => hl (by rw [e]; rfl)
  have hl2 : ¬ o.toList = [99, 111, 110, 115, 116] := fun e => hl (by rw [e]; rfl)
  rw [if_neg hl1, if_neg hl2]
  by_cases h1 : one o.toList = true
  ·rw [ops_one.2 h1, if_pos h1]
   by_cases hb : b = 0 <;> cases (decide (0 ≤ a) && decide (a ≤ i - 1)) <;> simp [hb]
  ·rw [if_neg h1]
   by_cases h2 : two o.toList = true
   ·rw [ops_two.2 h2, h2]
    cases (decide (0 ≤ a) && decide (a ≤ i - 1)) <;> cases (decide (0 ≤ b) && decide (b ≤ i - 1)) <;> simp
   ·have ho : ops o.toList = -1 := by unfold ops; rw [if_neg hl, if_neg h1, if_neg h2]
    have h3 : two o.toList = false := by simpa using h2
    rw [ho, h3]
    by_cases ha : a = 0 <;> by_cases hb : b = 0 <;> simp [ha, hb]

def inc (u : List Int) (p : Int) : List Int := u.set p.toNat (wrap64 (rd u p + 1))
theorem inc_length (u : List Int) (p : Int) : (inc u p).length = u.length := by simp [inc]
theorem incs_length (ps : List Int) : ∀ u : List Int, (ps.foldl inc u).length = u.length := by
 induction ps with
 | nil => intro u; rfl
 | cons p ps ih => intro u; rw [List.foldl_cons, ih, inc_length]
theorem rd_get (xs : List Int) (i : Nat) (h : i < xs.length) : rd xs (i : Int) = xs[i] := by
 simp [rd, List.getD_eq_getElem?_getD, h]
theorem inner_s (xs : List INode) (i : Nat) (ps : List Int) (hl : ps.length ≤ 2) (e : Nat) : ∀ (k j : Nat) (u : List Int), j + e = ps.length → e < k → (∀ p ∈ ps, 0 ≤ p ∧ p < u.length) →
  ∃ k', k ≤ k' + e + 1 ∧ spec_exUses.l1 k u xs (xs.length : Int) (i : Int) ps (ps.length : Int) (j : Int) = spec_exUses.l0 k' ((ps.drop j).foldl inc u) xs (xs.length : Int) (wrap64 ((i : Int) + 1)) := by
 induction e with
 | zero =>
  intro k j u h hk hp
  obtain ⟨k, rfl⟩ : ∃ m, k = m + 1 := ⟨k - 1, by omega⟩
  refine ⟨k, by omega, ?_⟩
  simp only [spec_exUses.l1]
  rw [if_neg (by omega), List.drop_eq_nil_of_le (by omega)]; rfl
 | succ e ih =>
  intro k j u h hk hp
  obtain ⟨k, rfl⟩ : ∃ m, k = m + 1 := ⟨k - 1, by omega⟩
  have hj : j < ps.length := by omega
  obtain ⟨h0, h1⟩ := hp ps[j] (List.getElem_mem hj)
  obtain ⟨k', hk', e'⟩ := ih k (j + 1) (inc u ps[j]) (by omega) (by omega) (fun p hpp => by rw [inc_length]; exact hp p hpp)
  refine ⟨k', by omega, ?_⟩
  simp only [spec_exUses.l1]
  rw [if_pos (by omega), if_pos (by omega), if_pos (by omega), rd_get ps j hj, if_pos h0, if_pos h1, wrapS hj (by omega), List.drop_eq_getElem_cons hj, List.foldl_cons]
  exact e'
theorem inner_i (xs : List INode) (i : Nat) (ps : List Int) (hl : ps.length ≤ 2) (e : Nat) : ∀ (k j : Nat) (u : List Int), j + e = ps.length → e < k → (∀ p ∈ ps, 0 ≤ p ∧ p < u.length) →
  ∃ k', k ≤ k' + e + 1 ∧ impl_uses.l1 k u xs (xs.length : Int) (i : Int) ps (ps.length : Int) (j : Int) = impl_uses.l0 k' ((ps.drop j).foldl inc u) xs (xs.length : Int) (wrap64 ((i : Int) + 1)) := by
 induction e with
 | zero =>
  intro k j u h hk hp
  obtain ⟨k, rfl⟩ : ∃ m, k = m + 1 := ⟨k - 1, by omega⟩
  refine ⟨k, by omega, ?_⟩
  simp only [impl_uses.l1]
  rw [if_neg (by omega), List.drop_eq_nil_of_le (by omega)]; rfl
 | succ e ih =>
  intro k j u h hk hp
  obtain ⟨k, rfl⟩ : ∃ m, k = m + 1 := ⟨k - 1, by omega⟩
  have hj : j < ps.length := by omega
  obtain ⟨h0, h1⟩ := hp ps[j] (List.getElem_mem hj)
  obtain ⟨k', hk', e'⟩ := ih k (j + 1) (inc u ps[j]) (by omega) (by omega) (fun p hpp => by rw [inc_length]; exact hp p hpp)
  refine ⟨k', by omega, ?_⟩
  simp only [impl_uses.l1]
  rw [if_pos (by omega), if_pos (by omega), if_pos (by omega), rd_get ps j hj, if_pos h0, if_pos h1, wrapS hj (by omega), List.drop_eq_getElem_cons hj, List.foldl_cons]
  exact e'
theorem parts_len (o : List UInt8) (a b : Int) : (parts o a b).length ≤ 2 := by
 unfold parts
 split
 ·simp
 ·split <;> simp
def partsOf (n : INode) : List Int := parts n.f0.toList n.f1 n.f2
/-- All nodes are right at their indices. -/
def okAll (xs : List INode) : Prop := ∀ (i : Nat) (h : i < xs.length), nodeOk xs[i].f0.toList xs[i].f1 xs[i].f2 xs[i].f3 (i : Int) = true
theorem parts_lt {o : List UInt8} {a b v i : Int} (h : nodeOk o a b v i = true) : ∀ p ∈ parts o a b, 0 ≤ p ∧ p < i := by
 intro p hp
 unfold parts at hp
 unfold nodeOk at h
 by_cases h1 : one o = true
 ·rw [if_pos h1] at hp
  rw [if_neg (by rw [(one_not h1).1]; decide), if_pos h1] at h
  simp only [Bool.and_eq_true, decide_eq_true_eq, beq_iff_eq] at h
  obtain rfl : p = a := by simpa using hp
  omega
 ·rw [if_neg h1] at hp
  by_cases h2 : two o = true
  ·rw [if_pos h2] at hp
   rw [if_neg (by rw [(two_not h2).1]; decide), if_neg h1] at h
   simp only [Bool.and_eq_true, decide_eq_true_eq, beq_iff_eq] at h
   simp only [List.mem_cons, List.not_mem_nil, or_false] at hp
   rcases hp with rfl | rfl <;> omega
  ·rw [if_neg h2] at hp
   simp at hp
def usesL (xs : List INode) : List Int := xs.foldl (fun u n => (partsOf n).foldl inc u) (List.replicate xs.length 0)
theorem usesL_length (xs : List INode) : (usesL xs).length = xs.length := by
 unfold usesL
 have : ∀ (ys : List INode) (u : List Int), (ys.foldl (fun u n => (partsOf n).foldl inc u) u).length = u.length := by
  intro ys
  induction ys with
  | nil => intro u; rfl
  | cons y ys ih => intro u; rw [List.foldl_cons, ih, incs_length]
 rw [this]; simp
theorem uses_main (xs : List INode) (hok : okAll xs) (hn : xs.length ≤ 1048576) (d : Nat) : ∀ (k i : Nat) (u : List Int), i + d = xs.length → 4 * d + 20 < k → u.length = xs.length →
  spec_exUses.l0 k u xs (xs.length : Int) (i : Int) = some ((xs.drop i).foldl (fun u n => (partsOf n).foldl inc u) u) ∧ impl_uses.l0 k u xs (xs.length : Int) (i : Int) = some ((xs.drop i).foldl (fun u n => (partsOf n).foldl inc u) u) := by
 induction d with
 | zero =>
  intro k i u h hk hu
  obtain ⟨k, rfl⟩ : ∃ m, k = m + 1 := ⟨k - 1, by omega⟩
  simp only [spec_exUses.l0, impl_uses.l0]
  rw [if_neg (by omega), if_neg (by omega), List.drop_eq_nil_of_le (by omega)]
  exact ⟨rfl, rfl⟩
 | succ d ih =>
  intro k i u h hk hu
  obtain ⟨k, rfl⟩ : ∃ m, k = m + 1 := ⟨k - 1, by omega⟩
  have hi : i < xs.length := by omega
  have hp : ∀ p ∈ partsOf xs[i], 0 ≤ p ∧ p < u.length := fun p hp => by
   have := parts_lt (hok i hi) p hp
   omega
  have hl := parts_len xs[i].f0.toList xs[i].f1 xs[i].f2
  obtain ⟨k1, hk1, e1⟩ := inner_s xs i (partsOf xs[i]) hl (partsOf xs[i]).length k 0 u (by omega) (by have : (partsOf xs[i]).length ≤ 2 := hl; omega) hp
  obtain ⟨k2, hk2, e2⟩ := inner_i xs i (partsOf xs[i]) hl (partsOf xs[i]).length k 0 u (by omega) (by have : (partsOf xs[i]).length ≤ 2 := hl; omega) hp
  have hl' : (partsOf xs[i]).length ≤ 2 := hl
  rw [wrapS hi (by omega), List.drop_zero] at e1 e2
  simp only [spec_exUses.l0, impl_uses.l0]
  rw [if_pos (by omega), if_pos (by omega), if_pos (by omega), if_pos (by omega), if_pos (by omega), if_pos (by omega), rdI xs i hi, exParts_f k (by omega), of_f k (by omega)]
  simp only [Option.bind_some]
  rw [List.drop_eq_getElem_cons hi, List.foldl_cons]
  refine ⟨?_, ?_⟩
  ·exact e1.trans (ih k1 (i + 1) _ (by omega) (by omega) (by rw [incs_length]; exact hu)).1
  ·exact e2.trans (ih k2 (i + 1) _ (by omega) (by omega) (by rw [incs_length]; exact hu)).2
theorem uses_f (k : Nat) (xs : List INode) (hok : okAll xs) (hn : xs.length ≤ 1048576) (hk : 4 * xs.length + 20 < k) : spec_exUses.f k xs = some (usesL xs) ∧ impl_uses.f k xs = some (usesL xs) := by
 have h := uses_main xs hok hn xs.length k 0 (List.replicate xs.length 0) (by omega) hk (by simp)
 rw [List.drop_zero] at h
 unfold spec_exUses.f impl_uses.f
 rw [if_pos (by omega), if_pos (by simp; omega), if_pos (by omega), if_pos (by simp; omega)]
 exact h
theorem has_f (k : Nat) (xs : List Int) (v : Int) (hn : xs.length ≤ 1048576) (hk : xs.length < k) : spec_l1Has.f k xs v = some (xs.contains v) := by
 unfold spec_l1Has.f
 obtain ⟨r, hr, hq⟩ := some_loop (fun k (_ : Unit) i => spec_l1Has.l0 k v xs (xs.length : Int) i) xs.length (by omega) 0 (fun i _ => ∀ j (hj : j < xs.length), j < i → xs[j] ≠ v) (fun r => r = xs.contains v)
  (fun k i s _ hi hI => by
   by_cases hc : xs[i] = v
   ·refine .inl ⟨true, ?_, ?_⟩
    ·simp only [spec_l1Has.l0]
     rw [if_pos (by omega), if_pos (by omega), if_pos (by omega), rd_get xs i hi, if_pos hc]
    ·symm; rw [List.contains_iff_mem, ← hc]; exact List.getElem_mem hi
   ·refine .inr ⟨(), ?_, fun j hj hji => ?_⟩
    ·simp only [spec_l1Has.l0]
     rw [if_pos (by omega), if_pos (by omega), if_pos (by omega), rd_get xs i hi, if_neg hc]
    ·by_cases e : j = i
     ·subst e; exact hc
     ·exact hI j hj (by omega))
  (fun k s _ hI => ⟨false, by simp only [spec_l1Has.l0]; rw [if_neg (by omega)], by
   symm
   rw [Bool.eq_false_iff]
   intro h
   rw [List.contains_iff_mem] at h
   obtain ⟨j, hj, e⟩ := List.mem_iff_getElem.1 h
   exact hI j hj hj e⟩) xs.length k 0 () (by omega) (by omega) (fun j _ h => by omega)
 rw [← hq]; exact hr
theorem containsInt_f (k : Nat) (xs : List Int) (v : Int) (hn : xs.length ≤ 1048576) (hk : xs.length < k) : slices_Contains_int_int.f k xs v = some (xs.contains v) := by
 unfold slices_Contains_int_int.f slices_Index_int_int.f
 obtain ⟨r, hr, hq⟩ := some_loop (fun k (_ : Unit) i => slices_Index_int_int.l0 k xs v (xs.length : Int) i) xs.length (by omega) 0 (fun i _ => ∀ j (hj : j < xs.length), j < i → xs[j] ≠ v) (fun r => decide (r ≥ 0) = xs.contains v)
  (fun k i s _ hi hI => by
   by_cases hc : v = xs[i]
   ·refine .inl ⟨i, ?_, ?_⟩
    ·simp only [slices_Index_int_int.l0]
     rw [if_pos (by omega), if_pos (by omega), if_pos (by omega), rd_get xs i hi, if_pos hc]
    ·rw [decide_eq_true (by omega)]; symm; rw [List.contains_iff_mem, hc]; exact List.getElem_mem hi
   ·refine .inr ⟨(), ?_, fun j hj hji => ?_⟩
    ·simp only [slices_Index_int_int.l0]
     rw [if_pos (by omega), if_pos (by omega), if_pos (by omega), rd_get xs i hi, if_neg hc]
    ·by_cases e : j = i
     ·subst e; exact fun h => hc h.symm
     ·exact hI j hj (by omega))
  (fun k s _ hI => ⟨-1, by simp only [slices_Index_int_int.l0]; rw [if_neg (by omega)], by
   have : xs.contains v = false := by
    rw [Bool.eq_false_iff]
    intro h
    rw [List.contains_iff_mem] at h
    obtain ⟨j, hj, e⟩ := List.mem_iff_getElem.1 h
    exact hI j hj hj e
   rw [this]; decide⟩) xs.length k 0 () (by omega) (by omega) (fun j _ h => by omega)
 have hr' : slices_Index_int_int.l0 k xs v (xs.length : Int) 0 = some r := hr
 rw [hr', Option.bind_some, hq]
end Go.Proofs.Ytlcplhcccgbmnaa.PureOps
