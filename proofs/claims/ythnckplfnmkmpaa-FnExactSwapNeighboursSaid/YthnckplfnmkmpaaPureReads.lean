/- The registers that an instruction reads: one list of both sides. Plain. -/
import Derived.Test.YthnckplfnmkmpaaPureGoodI
import Derived.Test.YthnckplfnmkmpaaFSpecL1Put
import Derived.Test.YthnckplfnmkmpaaFImplInstrReads
import Derived.Test.YthnckplfnmkmpaaFCmpIsNaNInt
import Derived.Test.YthnckplfnmkmpaaFCmpIsNaNInt
namespace Go.Proofs.Ythnckplfnmkmpaa.PureCd
open Go.RowKit Go.Proofs.Ythnckplfnmkmpaa.PureOps Go.Proofs.Ythnckplfnmkmpaa.F Go.Proofs.YthnckplfnmkmpaaW.PrintWords Go.Proofs.YthnckplfnmkmpaaW.PrintLast Go.Proofs.YthnckplfnmkmpaaW.PrintMore
set_option linter.unusedVariables false
set_option linter.unusedSimpArgs false
/-- The registers read, in order, each once. -/
def readsL (u v : Bool) (a b : Int) : List Int := if u = true then (if v = true then (if a < b then [a, b] else if a = b then [a] else [b, a]) else [a]) else if v = true then [b] else []
theorem readsL_length (u v : Bool) (a b : Int) : (readsL u v a b).length ≤ 2 := by
 unfold readsL
 repeat' split
 all_goals simp
theorem wr1 : wrap64 (0 + 1) = 1 := wrap64_small (n := 0 + 1) (by omega) (by omega)
theorem wr2 : wrap64 (1 + 1) = 2 := wrap64_small (n := 1 + 1) (by omega) (by omega)
theorem wr3 : wrap64 (1 - 1) = 0 := wrap64_small (n := 1 - 1) (by omega) (by omega)
theorem put_nil (k : Nat) (x : Int) : spec_l1Put.f (k + 1) [] x = some [x] := by
 unfold spec_l1Put.f
 simp only [spec_l1Put.l0]
 rw [if_neg (by simp), Option.bind_some, if_pos (by simp), if_pos (by simp), Option.bind_some, if_pos (by simp), Option.bind_some, if_pos (by simp), Option.bind_some, Option.bind_some, if_pos (by simp)]
 rfl
theorem put_one (k : Nat) (a b : Int) : spec_l1Put.f (k + 2) [a] b = some (if a < b then [a, b] else if a = b then [a] else [b, a]) := by
 unfold spec_l1Put.f
 have r0 : rd [a] 0 = a := rfl
 simp only [spec_l1Put.l0, wr1, r0]
 rw [if_pos (by simp), if_pos (by simp)]
 by_cases h : a < b
 ·rw [if_pos h, if_pos h, if_neg (by simp), Option.bind_some, if_pos (by simp), if_pos (by simp), Option.bind_some, if_pos (by simp), Option.bind_some, if_pos (by simp), Option.bind_some, Option.bind_some, if_pos (by simp)]
  rfl
 ·rw [if_neg h, if_neg h]
  by_cases e : a = b
  ·rw [if_pos e, if_pos e]
  ·rw [if_neg e, if_neg e, Option.bind_some, if_pos (by simp), Option.bind_some, if_pos (by simp), Option.bind_some, if_pos (by simp), Option.bind_some, Option.bind_some, if_pos (by simp)]
   rfl
theorem nf : ¬ ((false : Bool) = true) := by decide
theorem cdReads_f (k : Nat) (hk : 6 < k) (o : ByteArray) (d a b m : Int) (u v : Bool) (p : Bool) (q r : Int) (hs : spec_cdShape.f k o = some (p, u, v, q, r)) : spec_cdReads.f k o d a b m = some (readsL u v a b) := by
 obtain ⟨k, rfl⟩ : ∃ n, k = n + 2 := ⟨k - 2, by omega⟩
 unfold spec_cdReads.f readsL
 rw [hs, Option.bind_some]
 dsimp only
 cases u with
 | true =>
  rw [if_pos rfl, if_pos rfl, put_nil, Option.bind_some]
  cases v with
  | true => rw [if_pos rfl, if_pos rfl, put_one]; rfl
  | false => rw [if_neg nf, if_neg nf]
 | false =>
  rw [if_neg nf, if_neg nf]
  cases v with
  | true => rw [if_pos rfl, if_pos rfl, put_nil]; rfl
  | false => rw [if_neg nf, if_neg nf]
theorem less_f (a b : Int) : cmp_Less_int.f a b = some (decide (a < b)) := by
 unfold cmp_Less_int.f cmp_isNaN_int.f
 simp
theorem len_f (k n : Nat) (hn : n ≤ 2) : ∃ t, bits_Len.f k (IntKind.u64.wrap (n : Int)) = some t := by
 unfold bits_Len.f
 have : n = 0 ∨ n = 1 ∨ n = 2 := by omega
 rcases this with rfl | rfl | rfl <;> exact ⟨_, if_pos (by decide)⟩
theorem ins_two (k : Nat) (a b : Int) : slices_insertionSortOrdered_int.f (k + 6) [a, b] 0 2 = some (if b < a then [b, a] else [a, b]) := by
 unfold slices_insertionSortOrdered_int.f
 have r0 : rd [a, b] 0 = a := rfl
 have r1 : rd [a, b] 1 = b := rfl
 rw [wr1]
 simp only [slices_insertionSortOrdered_int.l0, slices_insertionSortOrdered_int.l1, wr2, wr3, r0, r1, less_f, Option.bind_some]
 by_cases h : b < a
 ·simp [h]
 ·simp [h]
theorem sort_two (k : Nat) (a b : Int) : slices_Sort_int_int.f (k + 8) [a, b] = some (if b < a then [b, a] else [a, b]) := by
 obtain ⟨t, ht⟩ := len_f (k + 8) 2 (by omega)
 have ht' : bits_Len.f (k + 8) (IntKind.u64.wrap (([a, b] : List Int).length : Int)) = some t := ht
 unfold slices_Sort_int_int.f
 rw [ht', Option.bind_some]
 simp only [slices_pdqsortOrdered_int.f, slices_pdqsortOrdered_int.l0]
 have hl : (([a, b] : List Int).length : Int) = 2 := rfl
 rw [hl, if_pos (by rw [wrap64_small (by omega) (by omega)]; omega), ins_two]
 rfl
theorem sort_one (k : Nat) (a : Int) : slices_Sort_int_int.f (k + 8) [a] = some [a] := by
 obtain ⟨t, ht⟩ := len_f (k + 8) 1 (by omega)
 have ht' : bits_Len.f (k + 8) (IntKind.u64.wrap (([a] : List Int).length : Int)) = some t := ht
 unfold slices_Sort_int_int.f
 rw [ht', Option.bind_some]
 simp only [slices_pdqsortOrdered_int.f, slices_pdqsortOrdered_int.l0]
 have hl : (([a] : List Int).length : Int) = 1 := rfl
 rw [hl, if_pos (by rw [wrap64_small (by omega) (by omega)]; omega)]
 unfold slices_insertionSortOrdered_int.f
 rw [wr1]
 simp only [slices_insertionSortOrdered_int.l0]
 rw [if_neg (by decide)]
 rfl
theorem sort_nil (k : Nat) : slices_Sort_int_int.f (k + 8) [] = some [] := by
 obtain ⟨t, ht⟩ := len_f (k + 8) 0 (by omega)
 have ht' : bits_Len.f (k + 8) (IntKind.u64.wrap (([] : List Int).length : Int)) = some t := ht
 unfold slices_Sort_int_int.f
 rw [ht', Option.bind_some]
 simp only [slices_pdqsortOrdered_int.f, slices_pdqsortOrdered_int.l0]
 have hl : (([] : List Int).length : Int) = 0 := rfl
 rw [hl, if_pos (by rw [wrap64_small (by omega) (by omega)]; omega)]
 unfold slices_insertionSortOrdered_int.f
 rw [wr1]
 simp only [slices_insertionSortOrdered_int.l0]
 rw [if_neg (by decide)]
 rfl
theorem compact_two (k : Nat) (a b : Int) : slices_Compact_int_int.f (k + 3) [a, b] = some (if b = a then [a] else [a, b]) := by
 unfold slices_Compact_int_int.f
 have r0 : rd [a, b] 0 = a := rfl
 have r1 : rd [a, b] 1 = b := rfl
 rw [if_neg (by simp)]
 simp only [slices_Compact_int_int.l0, slices_Compact_int_int.l1, wr2, wr3, r0, r1]
 by_cases h : b = a
 ·simp [h]
 ·simp [h]
theorem compact_small (k : Nat) (l : List Int) (h : l.length < 2) : slices_Compact_int_int.f k l = some l := by
 unfold slices_Compact_int_int.f
 rw [if_pos (by omega)]
theorem sortCompact_two (k : Nat) (a b : Int) : ((slices_Sort_int_int.f (k + 8) [a, b]).bind fun t => (slices_Compact_int_int.f (k + 8) t).bind fun t' => some t') = some (if a < b then [a, b] else if a = b then [a] else [b, a]) := by
 rw [sort_two, Option.bind_some]
 by_cases h : b < a
 ·rw [if_pos h, compact_two, if_neg (by omega), if_neg (by omega), if_neg (by omega)]
  rfl
 ·rw [if_neg h, compact_two]
  by_cases e : b = a
  ·rw [if_pos e, if_neg (by omega), if_pos (by omega)]
   rfl
  ·rw [if_neg e, if_pos (by omega)]
   rfl
theorem reads_f (k : Nat) (hk : 20 < k) (o : ByteArray) (d a b m : Int) : impl_Instr_reads.f k o d a b m = some (readsL (shape o.toList).1 (shape o.toList).2.1 a b) := by
 obtain ⟨s', e⟩ := formOf_f k (by omega) o
 obtain ⟨k, rfl⟩ : ∃ n, k = n + 9 := ⟨k - 9, by omega⟩
 unfold impl_Instr_reads.f readsL
 rw [e, Option.bind_some, Option.bind_some]
 dsimp only
 generalize (shape o.toList).1 = u
 generalize (shape o.toList).2.1 = v
 have h2 := sortCompact_two k a b
 have h1 : ∀ x, ((slices_Sort_int_int.f (k + 8) [x]).bind fun t => (slices_Compact_int_int.f (k + 8) t).bind fun t' => some t') = some [x] := fun x => by rw [sort_one, Option.bind_some, compact_small _ _ (by simp)]; rfl
 have h0 : ((slices_Sort_int_int.f (k + 8) []).bind fun t => (slices_Compact_int_int.f (k + 8) t).bind fun t' => some t') = some [] := by rw [sort_nil, Option.bind_some, compact_small _ _ (by simp)]; rfl
 simp only [impl_Instr_reads.j0]
 cases u with
 | true =>
  rw [if_pos rfl, if_pos rfl, if_pos (by simp)]
  cases v with
  | true => rw [if_pos rfl, if_pos rfl, if_pos (by simp)]; exact h2
  | false => rw [if_neg nf, if_neg nf]; exact h1 a
 | false =>
  rw [if_neg nf, if_neg nf]
  cases v with
  | true => rw [if_pos rfl, if_pos rfl, if_pos (by simp)]; exact h1 b
  | false => rw [if_neg nf, if_neg nf]; exact h0
theorem reads_s (k : Nat) (hk : 20 < k) (o : ByteArray) (d a b m : Int) : spec_cdReads.f k o d a b m = some (readsL (shape o.toList).1 (shape o.toList).2.1 a b) :=
 cdReads_f k (by omega) o d a b m _ _ _ _ _ (cdShape_f k (by omega) o)
end Go.Proofs.Ythnckplfnmkmpaa.PureCd
