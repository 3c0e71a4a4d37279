/- strconv.Itoa at numbers of one or two digits, told in the statement's own words for a number. -/
import Derived.Test.YtjeklcgflocfoaaDoorPSpecCdShape
import Derived.Test.YtjeklcgflocfoaaDoorShelf
namespace Go.Proofs.YtjeklcgflocfoaaDoor.P
open Go.RowKit Go.Proofs.YtjeklcgflocfoaaDoorW.PrintWords Go.Proofs.YtjeklcgflocfoaaDoorW.PrintLast Go.Proofs.YtjeklcgflocfoaaDoorW.PrintMore
set_option linter.unusedVariables false
/-- The digits of a small number. -/
def strconv_Itoa_98.f (k : Nat) (a0 : Int) : Option (ByteArray) := if 0 ≤ a0 ∧ a0 < 100 then spec_l1Num.f 3 a0 else none
theorem strconv_Itoa_98.mono : ∀ a0 k, LeO (strconv_Itoa_98.f k a0) (strconv_Itoa_98.f (k + 1) a0) := fun _ _ => LeO.refl _
def itoaTwo (i : Nat) : List UInt8 := if i < 10 then [UInt8.ofNat (48 + i)] else [UInt8.ofNat (48 + i / 10), UInt8.ofNat (48 + i % 10)]
theorem itoaTwo_eq (i : Nat) (h : i < 100) : Lib.decDigits i = itoaTwo i := by
  rw [Lib.decDigits, itoaTwo]
  split
  · rfl
  · rw [Lib.decDigits, dif_pos (by omega)]
    rfl
theorem itoaTab : (List.range 100).all (fun i => decide (spec_l1Num.f 3 (Int.ofNat i) = some ⟨(itoaTwo i).toArray⟩)) = true := by kernel_rfl
theorem itoaSmall (i : Nat) (h : i < 100) : spec_l1Num.f 3 (i : Int) = some ⟨(Lib.decDigits i).toArray⟩ := by
  have t := List.all_eq_true.1 itoaTab i (List.mem_range.2 h)
  have t2 := of_decide_eq_true t
  rw [itoaTwo_eq i h]
  exact t2
theorem strconv_Itoa_98.calls (k : Nat) (a0 : Int) (r : ByteArray) (w : World) (h : strconv_Itoa_98.f k a0 = some r) :
    Calls Tryd.prog 98 #[.int .i64 a0] w fun e w' => e = .returned (.string r) ∧ Below w.heap.size w w' := by
  unfold strconv_Itoa_98.f at h
  split at h
  · next hc =>
    obtain ⟨i, rfl⟩ := Int.eq_ofNat_of_zero_le hc.1
    have hi : i < 100 := by omega
    have e := itoaSmall i hi
    rw [e] at h
    cases h
    refine (Tryd.strconv_Itoa_small i hi w).mono ?_
    rintro e w' ⟨rfl, rfl⟩
    exact ⟨rfl, Below.refl _ _⟩
  · cases h
end Go.Proofs.YtjeklcgflocfoaaDoor.P
