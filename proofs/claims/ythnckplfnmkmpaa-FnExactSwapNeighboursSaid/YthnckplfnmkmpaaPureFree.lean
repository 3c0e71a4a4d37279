/- Which instructions are independent of each other, as the program and the reference tell it. Plain. -/
import Derived.Test.YthnckplfnmkmpaaLoops
import Derived.Test.YthnckplfnmkmpaaPureReads
import Derived.Test.YthnckplfnmkmpaaFSpecL1Has
import Derived.Test.YthnckplfnmkmpaaFSpecL1Has
import Derived.Test.YthnckplfnmkmpaaFSpecL1Has
import Derived.Test.YthnckplfnmkmpaaFSpecL1Has
namespace Go.Proofs.Ythnckplfnmkmpaa.PureCd
open Go.RowKit Go.Proofs.Ythnckplfnmkmpaa.PureOps Go.Proofs.Ythnckplfnmkmpaa.F Go.Proofs.YthnckplfnmkmpaaW.PrintWords Go.Proofs.YthnckplfnmkmpaaW.PrintLast Go.Proofs.YthnckplfnmkmpaaW.PrintMore
set_option linter.unusedVariables false
set_option linter.unusedSimpArgs false
theorem rdF_get (xs : List Int) (i : Nat) (h : i < xs.length) : rd xs (i : Int) = xs[i] := by
 simp [rd, List.getD_eq_getElem?_getD, h]
theorem has_f (k : Nat) (xs : List Int) (v : Int) (hn : xs.length ≤ 1048576) (hk : xs.length < k) : spec_l1Has.f k xs v = some (xs.contains v) := by
 unfold spec_l1Has.f
 obtain ⟨r, hr, hq⟩ := some_loop (fun k (_ : Unit) i => spec_l1Has.l0 k v xs (xs.length : Int) i) xs.length (by omega) 0 (fun i _ => ∀ j (hj : j < xs.length), j < i → xs[j] ≠ v) (fun r => r = xs.contains v)
  (fun k i s _ hi hI => by
   by_cases hc : xs[i] = v
   ·refine .inl ⟨true, ?_, ?_⟩
    ·simp only [spec_l1Has.l0]
     rw [if_pos (by omega), if_pos (by omega), if_pos (by omega), rdF_get xs i hi, if_pos hc]
    ·symm; rw [List.contains_iff_mem, ← hc]; exact List.getElem_mem hi
   ·refine .inr ⟨(), ?_, fun j hj hji => ?_⟩
    ·simp only [spec_l1Has.l0]
     rw [if_pos (by omega), if_pos (by omega), if_pos (by omega), rdF_get xs i hi, if_neg hc]
    ·by_cases e : j = i
     ·subst e; exact hc
     ·exact hI j hj (by omega))
  (fun k s _ hI => ⟨false, by simp only [spec_l1Has.l0]; rw [if_neg (by omega)], by
   symm
   rw [Bool.eq_false_iff]
   intro h
   rw [List.contains_iff_mem] at h
   obtain ⟨j, hj, e⟩ := List.mem_iff_getElem.1 h
   exact hI j hj hj e⟩) xs.length k 0 () (by omega) (by omega) (fun j _ h => by omega)
 rw [← hq]; exact hr
theorem containsInt_f (k : Nat) (xs : List Int) (v : Int) (hn : xs.length ≤ 1048576) (hk : xs.length < k) : slices_Contains_int_int.f k xs v = some (xs.contains v) := by
 unfold slices_Contains_int_int.f slices_Index_int_int.f
 obtain ⟨r, hr, hq⟩ := some_loop (fun k (_ : Unit) i => slices_Index_int_int.l0 k xs v (xs.length : Int) i) xs.length (by omega) 0 (fun i _ => ∀ j (hj : j < xs.length), j < i → xs[j] ≠ v) (fun r => decide (r ≥ 0) = xs.contains v)
  (fun k i s _ hi hI => by
   by_cases hc : v = xs[i]
   ·refine .inl ⟨i, ?_, ?_⟩
    ·simp only [slices_Index_int_int.l0]
     rw [if_pos (by omega), if_pos (by omega), if_pos (by omega), rdF_get xs i hi, if_pos hc]
    ·rw [decide_eq_true (by omega)]; symm; rw [List.contains_iff_mem, hc]; exact List.getElem_mem hi
   ·refine .inr ⟨(), ?_, fun j hj hji => ?_⟩
    ·simp only [slices_Index_int_int.l0]
     rw [if_pos (by omega), if_pos (by omega), if_pos (by omega), rdF_get xs i hi, if_neg hc]
    ·by_cases e : j = i
     ·subst e; exact fun h => hc h.symm
     ·exact hI j hj (by omega))
  (fun k s _ hI => ⟨-1, by simp only [slices_Index_int_int.l0]; rw [if_neg (by omega)], by
   have : xs.contains v = false := by
    rw [Bool.eq_false_iff]
    intro h
    rw [List.contains_iff_mem] at h
    obtain ⟨j, hj, e⟩ := List.mem_iff_getElem.1 h
    exact hI j hj hj e
   rw [this]; decide⟩) xs.length k 0 () (by omega) (by omega) (fun j _ h => by omega)
 have hr' : slices_Index_int_int.l0 k xs v (xs.length : Int) 0 = some r := hr
 rw [hr', Option.bind_some, hq]
/-- Neither writes what the other reads or writes. -/
def freeL (o : List UInt8) (d a b : Int) (o' : List UInt8) (d' a' b' : Int) : Bool := !(d == d') && (!((readsL (shape o).1 (shape o).2.1 a b).contains d') && !((readsL (shape o').1 (shape o').2.1 a' b').contains d))
theorem free_f (k : Nat) (hk : 30 < k) (o : ByteArray) (d a b m : Int) (o' : ByteArray) (d' a' b' m' : Int) :
  spec_cdFree.f k o d a b m o' d' a' b' m' = some (freeL o.toList d a b o'.toList d' a' b') ∧ impl_independent.f k o d a b m o' d' a' b' m' = some (freeL o.toList d a b o'.toList d' a' b') := by
 have e1 := readsL_length (shape o.toList).1 (shape o.toList).2.1 a b
 have e2 := readsL_length (shape o'.toList).1 (shape o'.toList).2.1 a' b'
 unfold spec_cdFree.f impl_independent.f freeL
 rw [reads_s k (by omega), reads_s k (by omega), reads_f k (by omega), reads_f k (by omega)]
 simp only [Option.bind_some]
 rw [has_f k _ _ (by omega) (by omega), has_f k _ _ (by omega) (by omega), containsInt_f k _ _ (by omega) (by omega), containsInt_f k _ _ (by omega) (by omega)]
 simp only [Option.bind_some]
 by_cases h : d = d'
 ·simp only [if_pos h]; rw [show (d == d') = true from beq_iff_eq.2 h]
  exact ⟨rfl, rfl⟩
 ·simp only [if_neg h]; rw [show (d == d') = false from beq_eq_false_iff_ne.2 h]
  cases (readsL (shape o.toList).1 (shape o.toList).2.1 a b).contains d' with
  | true => exact ⟨rfl, rfl⟩
  | false => exact ⟨rfl, rfl⟩
end Go.Proofs.Ythnckplfnmkmpaa.PureCd
