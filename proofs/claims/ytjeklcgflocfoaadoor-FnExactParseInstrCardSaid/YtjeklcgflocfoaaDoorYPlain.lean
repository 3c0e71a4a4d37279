/- Plain facts: numbers, byte lists, the ops of expressions. -/
import Derived.Test.YtjeklcgflocfoaaDoorVP0
namespace Go.Proofs.YtjeklcgflocfoaaDoor.PureOps
open Go.RowKit Go.Proofs.YtjeklcgflocfoaaDoorW.PrintWords Go.Proofs.YtjeklcgflocfoaaDoorW.PrintLast Go.Proofs.YtjeklcgflocfoaaDoorW.PrintMore
set_option linter.unusedVariables false
set_option linter.unusedSimpArgs false

theorem wrap64_small {n : Int} (h0 : -9223372036854775808 ≤ n) (h1 : n ≤ 9223372036854775807) : wrap64 n = n := by unfold wrap64; omega

/-- The op has one operand. -/
def one (o : List UInt8) : Bool := o == [110, 111, 116] || o == [110, 101, 103]
def leaf (o : List UInt8) : Bool := o == [105, 110] || o == [99, 111, 110, 115, 116]
def opsL : List (List UInt8) := [[97, 100, 100], [115, 117, 98], [109, 117, 108], [97, 110, 100], [111, 114], [120, 111, 114], [115, 104, 108], [115, 104, 114], [108, 101, 115, 115], [101, 113]]
def two (o : List UInt8) : Bool := opsL.any (· == o)
def ops (o : List UInt8) : Int := if leaf o then 0 else if one o then 1 else if two o then 2 else -1

theorem rdOf_getElem (xs : List ByteArray) (i : Nat) (h : i < xs.length) : rdOf ByteArray.empty xs (i : Int) = xs[i] := by
  simp [rdOf, List.getD_eq_getElem?_getD, h]

theorem toList_loop (a : ByteArray) (i : Nat) (r : List UInt8) : ByteArray.toList.loop a i r = r.reverse ++ a.data.toList.drop i := by
  induction h : a.size - i generalizing i r with
  | zero =>
    unfold ByteArray.toList.loop
    rw [if_neg (by omega), List.drop_eq_nil_of_le (by simp; show a.size ≤ i; omega)]; simp
  | succ n ih =>
    unfold ByteArray.toList.loop
    have hi : i < a.size := by omega
    rw [if_pos hi, ih (i + 1) _ (by omega)]
    have hi' : i < a.data.toList.length := by simpa using hi
    rw [List.drop_eq_getElem_cons hi']
    have : a.get! i = a.data.toList[i] := by
      simp [ByteArray.get!]
      rw [getElem!_pos a.data i (by simpa using hi)]
    rw [this]; simp
theorem toList_data (a : ByteArray) : a.toList = a.data.toList := by
  unfold ByteArray.toList
  rw [toList_loop]; simp
theorem length_toList (a : ByteArray) : a.toList.length = a.size := by rw [toList_data]; simp
theorem toList_inj {a b : ByteArray} (h : a.toList = b.toList) : a = b := by
  rw [toList_data, toList_data] at h
  cases a; cases b; simp at h; subst h; rfl
theorem size_of_list {a : ByteArray} {l : List UInt8} (h : a.toList = l) : a.size = l.length := by rw [← h]; exact (length_toList a).symm
/-- A number is a word. -/
def word (n : Int) : Bool := decide (0 ≤ n) && decide (n ≤ 63)
theorem word_iff {n : Int} : word n = true ↔ 0 ≤ n ∧ n ≤ 63 := by simp [word]
theorem lits_two (a : ByteArray) : (([(⟨#[97, 100, 100]⟩ : ByteArray), (⟨#[115, 117, 98]⟩ : ByteArray), (⟨#[109, 117, 108]⟩ : ByteArray), (⟨#[97, 110, 100]⟩ : ByteArray), (⟨#[111, 114]⟩ : ByteArray), (⟨#[120, 111, 114]⟩ : ByteArray), (⟨#[115, 104, 108]⟩ : ByteArray), (⟨#[115, 104, 114]⟩ : ByteArray), (⟨#[108, 101, 115, 115]⟩ : ByteArray), (⟨#[101, 113]⟩ : ByteArray)] : List ByteArray)).any (fun x => x.toList == a.toList) = two a.toList := by
  unfold two
  rw [show opsL = (([(⟨#[97, 100, 100]⟩ : ByteArray), (⟨#[115, 117, 98]⟩ : ByteArray), (⟨#[109, 117, 108]⟩ : ByteArray), (⟨#[97, 110, 100]⟩ : ByteArray), (⟨#[111, 114]⟩ : ByteArray), (⟨#[120, 111, 114]⟩ : ByteArray), (⟨#[115, 104, 108]⟩ : ByteArray), (⟨#[115, 104, 114]⟩ : ByteArray), (⟨#[108, 101, 115, 115]⟩ : ByteArray), (⟨#[101, 113]⟩ : ByteArray)] : List ByteArray)).map (·.toList) by decide +kernel, List.any_map]
  rfl
theorem ops_one {o : List UInt8} : ops o = 1 ↔ one o = true := by
  unfold ops
  constructor
  · intro h
    split at h
    · omega
    · split at h
      · assumption
      · split at h <;> omega
  · intro h
    have : leaf o = false := by
      simp only [one, Bool.or_eq_true, beq_iff_eq] at h
      rcases h with rfl | rfl <;> rfl
    simp [this, h]
theorem two_not {o : List UInt8} (h : two o = true) : leaf o = false ∧ one o = false := by
  simp only [two, opsL, List.any_cons, List.any_nil, Bool.or_false, Bool.or_eq_true, beq_iff_eq] at h
  rcases h with rfl | rfl | rfl | rfl | rfl | rfl | rfl | rfl | rfl | rfl <;> exact ⟨by decide, by decide⟩
theorem one_not {o : List UInt8} (h : one o = true) : leaf o = false ∧ two o = false := by
  simp only [one, Bool.or_eq_true, beq_iff_eq] at h
  rcases h with rfl | rfl <;> exact ⟨by decide, by decide⟩
theorem leaf_not {o : List UInt8} (h : leaf o = true) : one o = false ∧ two o = false := by
  simp only [leaf, Bool.or_eq_true, beq_iff_eq] at h
  rcases h with rfl | rfl <;> exact ⟨by decide, by decide⟩
theorem ops_two {o : List UInt8} : ops o = 2 ↔ two o = true := by
  unfold ops
  constructor
  · intro h
    split at h
    · omega
    · split at h
      · omega
      · split at h
        · assumption
        · omega
  · intro h
    obtain ⟨h1, h2⟩ := two_not h
    simp [h1, h2, h]
theorem ops_lt (o : List UInt8) : ops o < 1 ↔ (one o = false ∧ two o = false) := by
  unfold ops
  constructor
  · intro h
    split at h
    · exact leaf_not (by assumption)
    · split at h
      · omega
      · split at h
        · omega
        · simp_all
  · rintro ⟨h1, h2⟩
    simp only [h1, h2]
    split <;> simp
end Go.Proofs.YtjeklcgflocfoaaDoor.PureOps
