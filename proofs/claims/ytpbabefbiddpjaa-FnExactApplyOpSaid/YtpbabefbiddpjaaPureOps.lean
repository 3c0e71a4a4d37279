/- The ops of expressions, as the program and the reference tell them: how many operands an op has. Plain: over byte lists. -/
import Derived.Test.YtpbabefbiddpjaaFSpecExOne
namespace Go.Proofs.Ytpbabefbiddpjaa.PureOps
open Go.RowKit Go.Proofs.Ytpbabefbiddpjaa.F Go.Proofs.YtpbabefbiddpjaaW.PrintWords Go.Proofs.YtpbabefbiddpjaaW.PrintLast Go.Proofs.YtpbabefbiddpjaaW.PrintMore
set_option linter.unusedVariables false
set_option linter.unusedSimpArgs false

theorem wrap64_small {n : Int} (h0 : -9223372036854775808 ≤ n) (h1 : n ≤ 9223372036854775807) : wrap64 n = n := by unfold wrap64; omega

/-- The op has one operand. -/
def one (o : List UInt8) : Bool := o == [110, 111, 116] || o == [110, 101, 103]
def leaf (o : List UInt8) : Bool := o == [105, 110] || o == [99, 111, 110, 115, 116]
def opsL : List (List UInt8) := [[97, 100, 100], [115, 117, 98], [109, 117, 108], [97, 110, 100], [111, 114], [120, 111, 114], [115, 104, 108], [115, 104, 114], [108, 101, 115, 115], [101, 113]]
def two (o : List UInt8) : Bool := opsL.any (· == o)
def ops (o : List UInt8) : Int := if leaf o then 0 else if one o then 1 else if two o then 2 else -1

theorem rdOf_getElem (xs : List ByteArray) (i : Nat) (h : i < xs.length) : rdOf ByteArray.empty xs (i : Int) = xs[i] := by
  simp [rdOf, List.getD_eq_getElem?_getD, h]

theorem hasS_loop (a : ByteArray) (xs : List ByteArray) (hn : xs.length ≤ 9223372036854775807) (d : Nat) : ∀ (k i : Nat), i + d = xs.length → d < k →
    spec_l1HasS.l0 k a xs (xs.length : Int) (i : Int) = some ((xs.drop i).any (fun x => x.toList == a.toList)) := by
  induction d with
  | zero =>
    intro k i h hk
    obtain ⟨k, rfl⟩ : ∃ m, k = m + 1 := ⟨k - 1, by omega⟩
    simp only [spec_l1HasS.l0]
    rw [if_neg (by omega), List.drop_eq_nil_of_le (by omega)]
    rfl
  | succ d ih =>
    intro k i h hk
    obtain ⟨k, rfl⟩ : ∃ m, k = m + 1 := ⟨k - 1, by omega⟩
    have hi : i < xs.length := by omega
    simp only [spec_l1HasS.l0]
    rw [if_pos (by omega), if_pos (by omega), if_pos (by omega), rdOf_getElem xs i hi, List.drop_eq_getElem_cons hi, List.any_cons]
    by_cases hc : xs[i].toList = a.toList
    · rw [if_pos hc]; simp [hc]
    · rw [if_neg hc, wrap64_small (by omega) (by omega), show ((i : Int) + 1) = ((i + 1 : Nat) : Int) by omega, ih k (i + 1) (by omega) (by omega)]
      simp [hc]
theorem index_loop (a : ByteArray) (xs : List ByteArray) (hn : xs.length ≤ 9223372036854775807) (d : Nat) : ∀ (k i : Nat), i + d = xs.length → d < k →
    ∃ r, slices_Index_string_string.l0 k xs a (xs.length : Int) (i : Int) = some r ∧ (decide (r ≥ 0)) = ((xs.drop i).any (fun x => x.toList == a.toList)) := by
  induction d with
  | zero =>
    intro k i h hk
    obtain ⟨k, rfl⟩ : ∃ m, k = m + 1 := ⟨k - 1, by omega⟩
    refine ⟨-1, ?_, ?_⟩
    · simp only [slices_Index_string_string.l0]
      rw [if_neg (by omega)]
    · rw [List.drop_eq_nil_of_le (by omega)]; rfl
  | succ d ih =>
    intro k i h hk
    obtain ⟨k, rfl⟩ : ∃ m, k = m + 1 := ⟨k - 1, by omega⟩
    have hi : i < xs.length := by omega
    by_cases hc : xs[i].toList = a.toList
    · refine ⟨i, ?_, ?_⟩
      · simp only [slices_Index_string_string.l0]
        rw [if_pos (by omega), if_pos (by omega), if_pos (by omega), rdOf_getElem xs i hi, if_pos hc.symm]
      · rw [List.drop_eq_getElem_cons hi, List.any_cons]; simp [hc]
    · obtain ⟨r, hr, hd⟩ := ih k (i + 1) (by omega) (by omega)
      refine ⟨r, ?_, ?_⟩
      · simp only [slices_Index_string_string.l0]
        rw [if_pos (by omega), if_pos (by omega), if_pos (by omega), rdOf_getElem xs i hi, if_neg (fun e => hc e.symm), wrap64_small (by omega) (by omega), show ((i : Int) + 1) = ((i + 1 : Nat) : Int) by omega]
        exact hr
      · rw [List.drop_eq_getElem_cons hi, List.any_cons, hd]; simp [hc]

theorem exOne (a : ByteArray) : spec_exOne.f a = some (one a.toList) := by
  unfold spec_exOne.f one
  by_cases h : a.toList = [110, 111, 116]
  · rw [if_pos h, h]; rfl
  · rw [if_neg h]; simp [h]
theorem lits_two (a : ByteArray) : (([(⟨#[97, 100, 100]⟩ : ByteArray), (⟨#[115, 117, 98]⟩ : ByteArray), (⟨#[109, 117, 108]⟩ : ByteArray), (⟨#[97, 110, 100]⟩ : ByteArray), (⟨#[111, 114]⟩ : ByteArray), (⟨#[120, 111, 114]⟩ : ByteArray), (⟨#[115, 104, 108]⟩ : ByteArray), (⟨#[115, 104, 114]⟩ : ByteArray), (⟨#[108, 101, 115, 115]⟩ : ByteArray), (⟨#[101, 113]⟩ : ByteArray)] : List ByteArray)).any (fun x => x.toList == a.toList) = two a.toList := by
  unfold two
  rw [show opsL = (([(⟨#[97, 100, 100]⟩ : ByteArray), (⟨#[115, 117, 98]⟩ : ByteArray), (⟨#[109, 117, 108]⟩ : ByteArray), (⟨#[97, 110, 100]⟩ : ByteArray), (⟨#[111, 114]⟩ : ByteArray), (⟨#[120, 111, 114]⟩ : ByteArray), (⟨#[115, 104, 108]⟩ : ByteArray), (⟨#[115, 104, 114]⟩ : ByteArray), (⟨#[108, 101, 115, 115]⟩ : ByteArray), (⟨#[101, 113]⟩ : ByteArray)] : List ByteArray)).map (·.toList) by decide +kernel, List.any_map]
  rfl
theorem exTwo (k : Nat) (hk : 10 < k) (a : ByteArray) : spec_exTwo.f k a = some (two a.toList) := by
  unfold spec_exTwo.f spec_exOps.f spec_l1HasS.f
  simp only [Option.bind_some]
  have h := hasS_loop a ([(⟨#[97, 100, 100]⟩ : ByteArray), (⟨#[115, 117, 98]⟩ : ByteArray), (⟨#[109, 117, 108]⟩ : ByteArray), (⟨#[97, 110, 100]⟩ : ByteArray), (⟨#[111, 114]⟩ : ByteArray), (⟨#[120, 111, 114]⟩ : ByteArray), (⟨#[115, 104, 108]⟩ : ByteArray), (⟨#[115, 104, 114]⟩ : ByteArray), (⟨#[108, 101, 115, 115]⟩ : ByteArray), (⟨#[101, 113]⟩ : ByteArray)] : List ByteArray) (by simp) 10 k 0 rfl hk
  rw [List.drop_zero, lits_two] at h
  rw [show ((0 : Nat) : Int) = 0 from rfl] at h
  rw [h]; rfl
theorem contains_two (k : Nat) (hk : 10 < k) (a : ByteArray) : ((impl_binary.f).bind fun t => slices_Contains_string_string.f k t a) = some (two a.toList) := by
  unfold impl_binary.f slices_Contains_string_string.f slices_Index_string_string.f
  simp only [Option.bind_some]
  obtain ⟨r, hr, hd⟩ := index_loop a ([(⟨#[97, 100, 100]⟩ : ByteArray), (⟨#[115, 117, 98]⟩ : ByteArray), (⟨#[109, 117, 108]⟩ : ByteArray), (⟨#[97, 110, 100]⟩ : ByteArray), (⟨#[111, 114]⟩ : ByteArray), (⟨#[120, 111, 114]⟩ : ByteArray), (⟨#[115, 104, 108]⟩ : ByteArray), (⟨#[115, 104, 114]⟩ : ByteArray), (⟨#[108, 101, 115, 115]⟩ : ByteArray), (⟨#[101, 113]⟩ : ByteArray)] : List ByteArray) (by simp) 10 k 0 rfl hk
  rw [List.drop_zero, lits_two] at hd
  rw [show ((0 : Nat) : Int) = 0 from rfl] at hr
  rw [hr, Option.bind_some, hd]
theorem operands_f (k : Nat) (hk : 12 < k) (a : ByteArray) : impl_operands.f k a = some (ops a.toList) := by
  obtain ⟨k, rfl⟩ : ∃ m, k = m + 2 := ⟨k - 2, by omega⟩
  have h2 := contains_two k (by omega) a
  have j1 : ∀ b, impl_operands.j1 (k + 1) a b = some (if b = true then 1 else if two a.toList then 2 else -1) := by
    intro b
    simp only [impl_operands.j1]
    cases b with
    | true => rfl
    | false =>
      rw [if_neg (show ¬ (false = true) by decide), if_neg (show ¬ (false = true) by decide)]
      have : ((impl_binary.f).bind fun t173 => ((slices_Contains_string_string.f k t173 a).bind fun t176 => (if t176 = true then (some (2 : Int)) else (some (-1))))) = ((impl_binary.f).bind fun t => slices_Contains_string_string.f k t a).bind fun t176 => (if t176 = true then (some (2 : Int)) else (some (-1))) := by
        rw [Option.bind_assoc]
      rw [this, h2, Option.bind_some]
      split <;> rfl
  have j0 : ∀ b, impl_operands.j0 (k + 2) a b = some (if b = true then 0 else if one a.toList then 1 else if two a.toList then 2 else -1) := by
    intro b
    simp only [impl_operands.j0]
    cases b with
    | true => rfl
    | false =>
      rw [if_neg (show ¬ (false = true) by decide), if_neg (show ¬ (false = true) by decide)]
      by_cases h : a.toList = [110, 111, 116]
      · rw [if_pos h, j1, h]; rfl
      · rw [if_neg h, j1]
        unfold one
        simp [h]
  unfold impl_operands.f ops leaf
  by_cases h : a.toList = [105, 110]
  · rw [if_pos h, j0, h]; rfl
  · rw [if_neg h, j0]
    simp [h]
theorem ops_one {o : List UInt8} : ops o = 1 ↔ one o = true := by
  unfold ops
  constructor
  · intro h
    split at h
    · omega
    · split at h
      · assumption
      · split at h <;> omega
  · intro h
    have : leaf o = false := by
      simp only [one, Bool.or_eq_true, beq_iff_eq] at h
      rcases h with rfl | rfl <;> rfl
    simp [this, h]
theorem two_not {o : List UInt8} (h : two o = true) : leaf o = false ∧ one o = false := by
  simp only [two, opsL, List.any_cons, List.any_nil, Bool.or_false, Bool.or_eq_true, beq_iff_eq] at h
  rcases h with rfl | rfl | rfl | rfl | rfl | rfl | rfl | rfl | rfl | rfl <;> exact ⟨by decide, by decide⟩
theorem one_not {o : List UInt8} (h : one o = true) : leaf o = false ∧ two o = false := by
  simp only [one, Bool.or_eq_true, beq_iff_eq] at h
  rcases h with rfl | rfl <;> exact ⟨by decide, by decide⟩
theorem leaf_not {o : List UInt8} (h : leaf o = true) : one o = false ∧ two o = false := by
  simp only [leaf, Bool.or_eq_true, beq_iff_eq] at h
  rcases h with rfl | rfl <;> exact ⟨by decide, by decide⟩
theorem ops_two {o : List UInt8} : ops o = 2 ↔ two o = true := by
  unfold ops
  constructor
  · intro h
    split at h
    · omega
    · split at h
      · omega
      · split at h
        · assumption
        · omega
  · intro h
    obtain ⟨h1, h2⟩ := two_not h
    simp [h1, h2, h]
theorem ops_lt (o : List UInt8) : ops o < 1 ↔ (one o = false ∧ two o = false) := by
  unfold ops
  constructor
  · intro h
    split at h
    · exact leaf_not (by assumption)
    · split at h
      · omega
      · split at h
        · omega
        · simp_all
  · rintro ⟨h1, h2⟩
    simp only [h1, h2]
    split <;> simp
end Go.Proofs.Ytpbabefbiddpjaa.PureOps
