/- The program's own list of ops with two operands, searched. -/
import Derived.Test.YtjeklcgflocfoaaDoorYPlain
import Derived.Test.YtjeklcgflocfoaaDoorPLaw
namespace Go.Proofs.YtjeklcgflocfoaaDoor.PureOps
open Go.RowKit Go.Proofs.YtjeklcgflocfoaaDoor.P Go.Proofs.YtjeklcgflocfoaaDoorW.PrintWords Go.Proofs.YtjeklcgflocfoaaDoorW.PrintLast Go.Proofs.YtjeklcgflocfoaaDoorW.PrintMore
set_option linter.unusedVariables false
set_option linter.unusedSimpArgs false

theorem index_loop (a : ByteArray) (xs : List ByteArray) (hn : xs.length ≤ 9223372036854775807) (d : Nat) : ∀ (k i : Nat), i + d = xs.length → d < k →
    ∃ r, slices_Index_string_string.l0 k xs a (xs.length : Int) (i : Int) = some r ∧ (decide (r ≥ 0)) = ((xs.drop i).any (fun x => x.toList == a.toList)) := by
  induction d with
  | zero =>
    intro k i h hk
    obtain ⟨k, rfl⟩ : ∃ m, k = m + 1 := ⟨k - 1, by omega⟩
    refine ⟨-1, ?_, ?_⟩
    · simp only [slices_Index_string_string.l0]
      rw [if_neg (by omega)]
    · rw [List.drop_eq_nil_of_le (by omega)]; rfl
  | succ d ih =>
    intro k i h hk
    obtain ⟨k, rfl⟩ : ∃ m, k = m + 1 := ⟨k - 1, by omega⟩
    have hi : i < xs.length := by omega
    by_cases hc : xs[i].toList = a.toList
    · refine ⟨i, ?_, ?_⟩
      · simp only [slices_Index_string_string.l0]
        rw [if_pos (by omega), if_pos (by omega), if_pos (by omega), rdOf_getElem xs i hi, if_pos hc.symm]
      · rw [List.drop_eq_getElem_cons hi, List.any_cons]; simp [hc]
    · obtain ⟨r, hr, hd⟩ := ih k (i + 1) (by omega) (by omega)
      refine ⟨r, ?_, ?_⟩
      · simp only [slices_Index_string_string.l0]
        rw [if_pos (by omega), if_pos (by omega), if_pos (by omega), rdOf_getElem xs i hi, if_neg (fun e => hc e.symm), wrap64_small (by omega) (by omega), show ((i : Int) + 1) = ((i + 1 : Nat) : Int) by omega]
        exact hr
      · rw [List.drop_eq_getElem_cons hi, List.any_cons, hd]; simp [hc]

theorem contains_two (k : Nat) (hk : 10 < k) (a : ByteArray) : ((impl_binary.f).bind fun t => slices_Contains_string_string.f k t a) = some (two a.toList) := by
  unfold impl_binary.f slices_Contains_string_string.f slices_Index_string_string.f
  simp only [Option.bind_some]
  obtain ⟨r, hr, hd⟩ := index_loop a ([(⟨#[97, 100, 100]⟩ : ByteArray), (⟨#[115, 117, 98]⟩ : ByteArray), (⟨#[109, 117, 108]⟩ : ByteArray), (⟨#[97, 110, 100]⟩ : ByteArray), (⟨#[111, 114]⟩ : ByteArray), (⟨#[120, 111, 114]⟩ : ByteArray), (⟨#[115, 104, 108]⟩ : ByteArray), (⟨#[115, 104, 114]⟩ : ByteArray), (⟨#[108, 101, 115, 115]⟩ : ByteArray), (⟨#[101, 113]⟩ : ByteArray)] : List ByteArray) (by simp) 10 k 0 rfl hk
  rw [List.drop_zero, lits_two] at hd
  rw [show ((0 : Nat) : Int) = 0 from rfl] at hr
  rw [hr, Option.bind_some, hd]
end Go.Proofs.YtjeklcgflocfoaaDoor.PureOps
