/- FoldExpr of the program and of the reference agree for all arguments. -/
import Derived.Test.YtlcplhcccgbmnaaUPureIsExpr0
import Derived.Test.YtlcplhcccgbmnaaUPureKeep
import Derived.Test.YtlcplhcccgbmnaaUPureApply
import Derived.Test.YtlcplhcccgbmnaaDAll
namespace Go.Proofs.Ytlcplhcccgbmnaa.PureOps
open Go.RowKit Go.Proofs.Ytlcplhcccgbmnaa.D Go.Proofs.YtlcplhcccgbmnaaW.PrintWords Go.Proofs.YtlcplhcccgbmnaaW.PrintLast Go.Proofs.YtlcplhcccgbmnaaW.PrintMore
set_option linter.unusedVariables false
set_option linter.unusedSimpArgs false
abbrev ndAt (s : List INode) (p : Int) : INode := rd_T47 s p
def isC (n : INode) : Bool := n.f0.toList == ([99, 111, 110, 115, 116] : List UInt8)
def cnode (v : Int) : INode := ⟨(⟨#[99, 111, 110, 115, 116]⟩ : ByteArray), 0, 0, v⟩
/-- One step of folding: the node at an index, whose operands are constants, is a constant. -/
def foldAt (s : List INode) (i : Nat) : List INode :=
 let n := ndAt s (i : Int)
 if one n.f0.toList = true then (if isC (ndAt s n.f1) = true then s.set i (cnode (app n.f0 (ndAt s n.f1).f3 0)) else s)
 else if two n.f0.toList = true then (if isC (ndAt s n.f1) = true then (if isC (ndAt s n.f2) = true then s.set i (cnode (app n.f0 (ndAt s n.f1).f3 (ndAt s n.f2).f3)) else s) else s)
 else s
theorem foldAt_length (s : List INode) (i : Nat) : (foldAt s i).length = s.length := by
 unfold foldAt
 dsimp only
 repeat' split
 all_goals simp
theorem cnode_ok (v i : Int) (h : 0 ≤ v ∧ v ≤ 63) : nodeOk (cnode v).f0.toList (cnode v).f1 (cnode v).f2 (cnode v).f3 i = true := by
 have e : (cnode v).f0.toList = [99, 111, 110, 115, 116] := by
  show (⟨#[99, 111, 110, 115, 116]⟩ : ByteArray).toList = _
  decide +kernel
 have e3 : (cnode v).f3 = v := rfl
 rw [e, e3]
 unfold nodeOk leaf
 simp [cnode, word, h.1, h.2]
theorem set_ok (s : List INode) (hok : okAll s) (i : Nat) (v : Int) (h : 0 ≤ v ∧ v ≤ 63) : okAll (s.set i (cnode v)) := by
 intro j hj
 by_cases e : i = j
 ·subst e
  rw [List.getElem_set_self]
  exact cnode_ok v _ h
 ·rw [List.getElem_set_ne e]
  exact hok j (by simpa using hj)
theorem foldAt_ok (s : List INode) (hok : okAll s) (i : Nat) : okAll (foldAt s i) := by
 unfold foldAt
 dsimp only
 split
 ·split
  ·exact set_ok s hok i _ (app_word _ _ _)
  ·exact hok
 ·split
  ·split
   ·split
    ·exact set_ok s hok i _ (app_word _ _ _)
    ·exact hok
   ·exact hok
  ·exact hok
theorem const_nonneg {n : INode} {i : Int} (hok : nodeOk n.f0.toList n.f1 n.f2 n.f3 i = true) (hc : isC n = true) : 0 ≤ n.f3 := by
 unfold isC at hc
 rw [beq_iff_eq] at hc
 unfold nodeOk at hok
 rw [hc] at hok
 have hl : leaf [99, 111, 110, 115, 116] = true := by decide
 rw [if_pos hl, if_neg (by decide)] at hok
 simp only [Bool.and_eq_true, word, decide_eq_true_eq] at hok
 omega
theorem ndAt_get (s : List INode) (p : Int) (h0 : 0 ≤ p) (h : p < s.length) : ∃ hp : p.toNat < s.length, ndAt s p = s[p.toNat] := by
 refine ⟨by omega, ?_⟩
 have := rdI s p.toNat (by omega)
 rw [show ((p.toNat : Nat) : Int) = p by omega] at this
 exact this
theorem spec_l0 (s : List INode) (hn : s.length ≤ 24) (i : Nat) (hi : i < s.length) (k : Nat) (hk : 40 < k) : spec_exFold.l0 (k + 1) s (s.length : Int) (i : Int) = spec_exFold.l1 k s (i : Int) (parts s[i].f0.toList s[i].f1 s[i].f2) (decide (((parts s[i].f0.toList s[i].f1 s[i].f2).length : Int) > 0)) (s.length : Int) (i : Int) (parts s[i].f0.toList s[i].f1 s[i].f2) ((parts s[i].f0.toList s[i].f1 s[i].f2).length : Int) 0 s[i].f0 s[i].f1 s[i].f2 s[i].f3 := by
 simp only [spec_exFold.l0]
 rw [if_pos (by omega), if_pos (by omega), if_pos (by omega), rdI s i hi, exParts_f k (by omega), Option.bind_some]
theorem impl_l0 (s : List INode) (hn : s.length ≤ 24) (i : Nat) (hi : i < s.length) (k : Nat) (hk : 40 < k) : impl_fold.l0 (k + 1) s (s.length : Int) (i : Int) = impl_fold.l1 k s (i : Int) [0, 0] (decide (ops s[i].f0.toList > 0)) (s.length : Int) (i : Int) (parts s[i].f0.toList s[i].f1 s[i].f2) ((parts s[i].f0.toList s[i].f1 s[i].f2).length : Int) 0 s[i].f0 s[i].f1 s[i].f2 s[i].f3 := by
 simp only [impl_fold.l0]
 rw [if_pos (by omega), if_pos (by omega), if_pos (by omega), rdI s i hi, operands_f k (by omega), Option.bind_some, of_f k (by omega), Option.bind_some]
theorem spec_round (s : List INode) (i : Nat) (ps : List Int) (N : Int) (k : Nat) (j : Nat) (hj : j < ps.length) (hl : ps.length ≤ 2) (h0 : 0 ≤ ps[j]) (h1 : ps[j] < s.length) (c : Bool) (o : ByteArray) (a b v : Int) :
  spec_exFold.l1 (k + 1) s (i : Int) ps c N (i : Int) ps (ps.length : Int) (j : Int) o a b v = spec_exFold.l1 k s (i : Int) ps (c && isC (ndAt s ps[j])) N (i : Int) ps (ps.length : Int) ((j + 1 : Nat) : Int) o a b v := by
 simp only [spec_exFold.l1]
 rw [if_pos (by omega), if_pos (by omega), if_pos (by omega), rd_get ps j hj, wrapS hj (by omega)]
 cases c with
 | true => rw [if_pos rfl, if_pos h0, if_pos h1]; rfl
 | false => rw [if_neg (by decide)]; rfl
theorem impl_round (s : List INode) (i : Nat) (ps own : List Int) (ho : own.length = 2) (N : Int) (k : Nat) (j : Nat) (hj : j < ps.length) (hl : ps.length ≤ 2) (h0 : 0 ≤ ps[j]) (h1 : ps[j] < s.length) (c : Bool) (o : ByteArray) (a b v : Int) :
  impl_fold.l1 (k + 1) s (i : Int) own c N (i : Int) ps (ps.length : Int) (j : Int) o a b v = impl_fold.l1 k s (i : Int) (own.set j (ndAt s ps[j]).f3) (c && isC (ndAt s ps[j])) N (i : Int) ps (ps.length : Int) ((j + 1 : Nat) : Int) o a b v := by
 simp only [impl_fold.l1]
 rw [if_pos (by omega), if_pos (by omega), if_pos (by omega), rd_get ps j hj, wrapS hj (by omega), if_pos h0, if_pos h1]
 cases c with
 | true => rw [if_pos rfl, if_pos (by omega), Int.toNat_natCast]; rfl
 | false => rw [if_neg (by decide), if_pos (by omega), Int.toNat_natCast]; rfl
theorem spec_end (s : List INode) (hn : s.length ≤ 24) (i : Nat) (hi : i < s.length) (ps : List Int) (k : Nat) (c : Bool) (o : ByteArray) (a b v : Int) (ha : c = true → 0 ≤ a ∧ a < s.length) (hb : c = true → 1 < ps.length → 0 ≤ b ∧ b < s.length ∧ 0 ≤ (ndAt s b).f3) :
  spec_exFold.l1 (k + 1) s (i : Int) ps c (s.length : Int) (i : Int) ps (ps.length : Int) (ps.length : Int) o a b v = if c = true then spec_exFold.l0 k (s.set i (cnode (app o (ndAt s a).f3 (if 1 < ps.length then (ndAt s b).f3 else 0)))) (s.length : Int) ((i + 1 : Nat) : Int) else spec_exFold.l0 k s (s.length : Int) ((i + 1 : Nat) : Int) := by
 simp only [spec_exFold.l1]
 rw [if_neg (by omega), wrapS hi (by omega)]
 cases c with
 | true =>
  obtain ⟨a0, a1⟩ := ha rfl
  rw [if_pos rfl, if_pos rfl]
  by_cases hl : 1 < ps.length
  ·obtain ⟨b0, b1, b2⟩ := hb rfl hl
   rw [if_pos (by omega), if_pos b0, if_pos b1, if_pos a0, if_pos a1, if_pos hl, app_spec _ _ _ b2, Option.bind_some, if_pos (by omega), if_pos (by omega), Int.toNat_natCast]
   rfl
  ·rw [if_neg (by omega), if_pos a0, if_pos a1, if_neg hl, app_spec _ _ _ (by omega), Option.bind_some, if_pos (by omega), if_pos (by omega), Int.toNat_natCast]
   rfl
 | false => rw [if_neg (by decide), if_neg (by decide)]
theorem impl_end (s : List INode) (hn : s.length ≤ 24) (i : Nat) (hi : i < s.length) (ps : List Int) (u w : Int) (k : Nat) (c : Bool) (o : ByteArray) (a b v : Int) (hw : c = true → 0 ≤ w) :
  impl_fold.l1 (k + 1) s (i : Int) [u, w] c (s.length : Int) (i : Int) ps (ps.length : Int) (ps.length : Int) o a b v = if c = true then impl_fold.l0 k (s.set i (cnode (app o u w))) (s.length : Int) ((i + 1 : Nat) : Int) else impl_fold.l0 k s (s.length : Int) ((i + 1 : Nat) : Int) := by
 simp only [impl_fold.l1]
 rw [if_neg (by omega), wrapS hi (by omega)]
 cases c with
 | true =>
  have r0 : rd [u, w] 0 = u := rfl
  have r1 : rd [u, w] 1 = w := rfl
  rw [if_pos rfl, if_pos rfl, if_pos (by simp), if_pos (by simp), r0, r1, app_impl _ _ _ (hw rfl), Option.bind_some, if_pos (by omega), if_pos (by omega), Int.toNat_natCast]
  rfl
 | false => rw [if_neg (by decide), if_neg (by decide)]
theorem foldStep (s : List INode) (hok : okAll s) (hn : s.length ≤ 24) (i : Nat) (hi : i < s.length) (k1 k2 : Nat) (h1 : 60 < k1) (h2 : 60 < k2) :
  ∃ q1 q2, k1 ≤ q1 + 6 ∧ k2 ≤ q2 + 6 ∧ spec_exFold.l0 k1 s (s.length : Int) (i : Int) = spec_exFold.l0 q1 (foldAt s i) (s.length : Int) ((i + 1 : Nat) : Int) ∧ impl_fold.l0 k2 s (s.length : Int) (i : Int) = impl_fold.l0 q2 (foldAt s i) (s.length : Int) ((i + 1 : Nat) : Int) := by
 have e0 : ndAt s (i : Int) = s[i] := rdI s i hi
 have hok0 := hok i hi
 by_cases ho : one s[i].f0.toList = true
 ·have hp := parts_lt hok0 s[i].f1 (by unfold parts; rw [if_pos ho]; simp)
  have ep : parts s[i].f0.toList s[i].f1 s[i].f2 = [s[i].f1] := by unfold parts; rw [if_pos ho]
  have hops : ops s[i].f0.toList = 1 := ops_one.2 ho
  have ef : foldAt s i = if isC (ndAt s s[i].f1) = true then s.set i (cnode (app s[i].f0 (ndAt s s[i].f1).f3 0)) else s := by
   unfold foldAt
   rw [e0]
   dsimp only
   rw [if_pos ho]
  refine ⟨k1 - 3, k2 - 3, by omega, by omega, ?_, ?_⟩
  ·obtain ⟨k1, rfl⟩ : ∃ m, k1 = m + 1 + 1 + 1 := ⟨k1 - 3, by omega⟩
   have s1 := spec_round s i [s[i].f1] (s.length : Int) (k1 + 1) 0 (by simp) (by simp) hp.1 (by show s[i].f1 < _; omega) true s[i].f0 s[i].f1 s[i].f2 s[i].f3
   have s2 := spec_end s hn i hi [s[i].f1] k1 (isC (ndAt s s[i].f1)) s[i].f0 s[i].f1 s[i].f2 s[i].f3 (fun _ => ⟨hp.1, by omega⟩) (fun _ h => by simp at h)
   rw [show k1 + 1 + 1 + 1 - 3 = k1 by omega, spec_l0 s hn i hi _ (by omega), ep, ef]
   refine s1.trans (s2.trans ?_)
   split
   ·rfl
   ·rfl
  ·obtain ⟨k2, rfl⟩ : ∃ m, k2 = m + 1 + 1 + 1 := ⟨k2 - 3, by omega⟩
   have s1 := impl_round s i [s[i].f1] [0, 0] rfl (s.length : Int) (k2 + 1) 0 (by simp) (by simp) hp.1 (by show s[i].f1 < _; omega) true s[i].f0 s[i].f1 s[i].f2 s[i].f3
   have s2 := impl_end s hn i hi [s[i].f1] (ndAt s s[i].f1).f3 0 k2 (isC (ndAt s s[i].f1)) s[i].f0 s[i].f1 s[i].f2 s[i].f3 (fun _ => by omega)
   rw [show k2 + 1 + 1 + 1 - 3 = k2 by omega, impl_l0 s hn i hi _ (by omega), ep, ef, hops]
   refine s1.trans (s2.trans ?_)
   split
   ·rfl
   ·rfl
 ·by_cases ht : two s[i].f0.toList = true
  ·have ep : parts s[i].f0.toList s[i].f1 s[i].f2 = [s[i].f1, s[i].f2] := by unfold parts; rw [if_neg ho, if_pos ht]
   have hp := parts_lt hok0 s[i].f1 (by rw [ep]; simp)
   have hq := parts_lt hok0 s[i].f2 (by rw [ep]; simp)
   have hops : ops s[i].f0.toList = 2 := ops_two.2 ht
   have hnn : isC (ndAt s s[i].f2) = true → 0 ≤ (ndAt s s[i].f2).f3 := fun hc => by
    obtain ⟨hb, e⟩ := ndAt_get s s[i].f2 hq.1 (by omega)
    rw [e] at hc ⊢
    exact const_nonneg (hok _ hb) hc
   have ef : foldAt s i = if (isC (ndAt s s[i].f1) && isC (ndAt s s[i].f2)) = true then s.set i (cnode (app s[i].f0 (ndAt s s[i].f1).f3 (ndAt s s[i].f2).f3)) else s := by
    unfold foldAt
    rw [e0]
    dsimp only
    rw [if_neg ho, if_pos ht]
    cases isC (ndAt s s[i].f1) with
    | true => rw [if_pos rfl, Bool.true_and]
    | false => rw [if_neg (by decide), Bool.false_and, if_neg (by decide)]
   refine ⟨k1 - 4, k2 - 4, by omega, by omega, ?_, ?_⟩
   ·obtain ⟨k1, rfl⟩ : ∃ m, k1 = m + 1 + 1 + 1 + 1 := ⟨k1 - 4, by omega⟩
    have s1 := spec_round s i [s[i].f1, s[i].f2] (s.length : Int) (k1 + 1 + 1) 0 (by simp) (by simp) hp.1 (by show s[i].f1 < _; omega) true s[i].f0 s[i].f1 s[i].f2 s[i].f3
    have s3 := spec_round s i [s[i].f1, s[i].f2] (s.length : Int) (k1 + 1) 1 (by simp) (by simp) hq.1 (by show s[i].f2 < _; omega) (isC (ndAt s s[i].f1)) s[i].f0 s[i].f1 s[i].f2 s[i].f3
    have s2 := spec_end s hn i hi [s[i].f1, s[i].f2] k1 (isC (ndAt s s[i].f1) && isC (ndAt s s[i].f2)) s[i].f0 s[i].f1 s[i].f2 s[i].f3 (fun _ => ⟨hp.1, by omega⟩) (fun hc _ => ⟨hq.1, by omega, hnn (by simp only [Bool.and_eq_true] at hc; exact hc.2)⟩)
    rw [show k1 + 1 + 1 + 1 + 1 - 4 = k1 by omega, spec_l0 s hn i hi _ (by omega), ep, ef]
    refine s1.trans (s3.trans (s2.trans ?_))
    split
    ·rfl
    ·rfl
   ·obtain ⟨k2, rfl⟩ : ∃ m, k2 = m + 1 + 1 + 1 + 1 := ⟨k2 - 4, by omega⟩
    have s1 := impl_round s i [s[i].f1, s[i].f2] [0, 0] rfl (s.length : Int) (k2 + 1 + 1) 0 (by simp) (by simp) hp.1 (by show s[i].f1 < _; omega) true s[i].f0 s[i].f1 s[i].f2 s[i].f3
    have s3 := impl_round s i [s[i].f1, s[i].f2] [(ndAt s s[i].f1).f3, 0] rfl (s.length : Int) (k2 + 1) 1 (by simp) (by simp) hq.1 (by show s[i].f2 < _; omega) (isC (ndAt s s[i].f1)) s[i].f0 s[i].f1 s[i].f2 s[i].f3
    have s2 := impl_end s hn i hi [s[i].f1, s[i].f2] (ndAt s s[i].f1).f3 (ndAt s s[i].f2).f3 k2 (isC (ndAt s s[i].f1) && isC (ndAt s s[i].f2)) s[i].f0 s[i].f1 s[i].f2 s[i].f3 (fun hc => hnn (by simp only [Bool.and_eq_true] at hc; exact hc.2))
    rw [show k2 + 1 + 1 + 1 + 1 - 4 = k2 by omega, impl_l0 s hn i hi _ (by omega), ep, ef, hops]
    refine s1.trans (s3.trans (s2.trans ?_))
    split
    ·rfl
    ·rfl
  ·have ep : parts s[i].f0.toList s[i].f1 s[i].f2 = [] := by unfold parts; rw [if_neg ho, if_neg ht]
   have hops := (ops_lt s[i].f0.toList).2 ⟨by simpa using ho, by simpa using ht⟩
   have ef : foldAt s i = s := by
    unfold foldAt
    rw [e0]
    dsimp only
    rw [if_neg ho, if_neg ht]
   refine ⟨k1 - 2, k2 - 2, by omega, by omega, ?_, ?_⟩
   ·obtain ⟨k1, rfl⟩ : ∃ m, k1 = m + 1 + 1 := ⟨k1 - 2, by omega⟩
    have s2 := spec_end s hn i hi [] k1 false s[i].f0 s[i].f1 s[i].f2 s[i].f3 (fun h => by cases h) (fun h => by cases h)
    rw [show k1 + 1 + 1 - 2 = k1 by omega, spec_l0 s hn i hi _ (by omega), ep, ef]
    exact s2
   ·obtain ⟨k2, rfl⟩ : ∃ m, k2 = m + 1 + 1 := ⟨k2 - 2, by omega⟩
    have s2 := impl_end s hn i hi [] 0 0 k2 false s[i].f0 s[i].f1 s[i].f2 s[i].f3 (fun h => by cases h)
    rw [show k2 + 1 + 1 - 2 = k2 by omega, impl_l0 s hn i hi _ (by omega), ep, ef, decide_eq_false (by omega)]
    exact s2
theorem fold_main (d : Nat) : ∀ (k1 k2 i : Nat) (s : List INode), okAll s → 1 ≤ s.length → s.length ≤ 24 → i + d = s.length → 6 * d + 450 < k1 → 6 * d + 450 < k2 →
  ∃ r, spec_exFold.l0 k1 s (s.length : Int) (i : Int) = some r ∧ impl_fold.l0 k2 s (s.length : Int) (i : Int) = some r ∧ r.length ≤ 24 := by
 induction d with
 | zero =>
  intro k1 k2 i s hok n1 n2 h h1 h2
  obtain ⟨k1, rfl⟩ : ∃ m, k1 = m + 1 := ⟨k1 - 1, by omega⟩
  obtain ⟨k2, rfl⟩ : ∃ m, k2 = m + 1 := ⟨k2 - 1, by omega⟩
  have hw : wrap64 ((s.length : Int) - 1) = ((s.length - 1 : Nat) : Int) := by rw [wrap64_small (by omega) (by omega)]; omega
  obtain ⟨r, a1, _, a3⟩ := keep_g k1 s n1 n2 hok (s.length - 1) (by omega) (by omega)
  obtain ⟨r', b1, b2, b3⟩ := keep_g k2 s n1 n2 hok (s.length - 1) (by omega) (by omega)
  have hrr : r = r' := by
   rcases Nat.le_total k1 k2 with hle | hle
   ·obtain ⟨e, rfl⟩ := Nat.exists_eq_add_of_le hle
    have up : ∀ e, spec_exKeep.f (k1 + e) s ((s.length - 1 : Nat) : Int) = some r := fun e => by
     induction e with
     | zero => exact a1
     | succ e ih => exact spec_exKeep.mono _ _ _ _ ih
    exact Option.some.inj ((up e).symm.trans b1)
   ·obtain ⟨e, rfl⟩ := Nat.exists_eq_add_of_le hle
    have up : ∀ e, spec_exKeep.f (k2 + e) s ((s.length - 1 : Nat) : Int) = some r' := fun e => by
     induction e with
     | zero => exact b1
     | succ e ih => exact spec_exKeep.mono _ _ _ _ ih
    exact Option.some.inj (a1.symm.trans (up e))
  subst hrr
  refine ⟨r, ?_, ?_, a3⟩
  ·simp only [spec_exFold.l0]
   rw [if_neg (by omega), hw, a1]
   rfl
  ·simp only [impl_fold.l0]
   rw [if_neg (by omega), hw, b2]
   rfl
 | succ d ih =>
  intro k1 k2 i s hok n1 n2 h h1 h2
  obtain ⟨q1, q2, a1, a2, a3, a4⟩ := foldStep s hok n2 i (by omega) k1 k2 (by omega) (by omega)
  have hl := foldAt_length s i
  obtain ⟨r, b1, b2, b3⟩ := ih q1 q2 (i + 1) (foldAt s i) (foldAt_ok s hok i) (by omega) (by omega) (by omega) (by omega) (by omega)
  rw [hl] at b1 b2
  exact ⟨r, a3.trans b1, a4.trans b2, b3⟩
theorem foldExpr_same (k : Nat) (xs : List INode) (hk : 4 * xs.length + 800 < k) (hn : xs.length ≤ 1048576) :
  ∃ q, spec_FoldExpr.f k xs = some q ∧ impl_FoldExpr.f k xs = some q ∧ q.1.length ≤ 24 := by
 unfold spec_FoldExpr.f impl_FoldExpr.f
 rw [good_f k xs (by omega) hn, isExpr_f k xs (by omega) hn]
 simp only [Option.bind_some]
 by_cases hE : isE xs = true
 ·obtain ⟨n1, n2, hok⟩ := isE_true hE
  rw [if_pos hE, if_pos hE]
  obtain ⟨r, b1, b2, b3⟩ := fold_main xs.length k k 0 xs hok n1 n2 (by omega) (by omega) (by omega)
  have c1 : spec_exFold.f k xs = some r := by
   unfold spec_exFold.f
   rw [Option.bind_some, if_pos (by simp; omega), Option.bind_some, List.nil_append]
   exact b1
  have c2 : impl_fold.f k xs = some r := by
   unfold impl_fold.f impl_Node_58.f
   rw [Option.bind_some, if_pos (by simp; omega), List.nil_append, Option.bind_some]
   exact b2
  rw [c1, c2]
  exact ⟨(r, true), rfl, rfl, b3⟩
 ·rw [if_neg hE, if_neg hE]
  exact ⟨([], false), rfl, rfl, by simp⟩
end Go.Proofs.Ytlcplhcccgbmnaa.PureOps
