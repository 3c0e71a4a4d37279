/- strings.Join of a list that is read. -/
import Derived.Test.YtjeklcgflocfoaaDoorJK
import Derived.Test.YtjeklcgflocfoaaDoorJn
namespace Go.Proofs.YtjeklcgflocfoaaDoor.J
open Go.RowKit Go.Proofs.YtjeklcgflocfoaaDoorW.PrintWords Go.Proofs.YtjeklcgflocfoaaDoorW.PrintLast Go.Proofs.YtjeklcgflocfoaaDoorW.PrintMore
set_option linter.unusedVariables false
/-- The strings, with a separator between them. -/
def strings_Join.f (k : Nat) (l0 : List ByteArray) (a1 : ByteArray) : Option (ByteArray) :=
  if 0 < l0.length ∧ l0.length ≤ 140737488355328 ∧ (Lib.join (l0.map (·.data.toList)) a1.data.toList).length ≤ 140737488355328 then some ⟨(Lib.join (l0.map (·.data.toList)) a1.data.toList).toArray⟩ else none
theorem strings_Join.mono : ∀ a0 a1 k, LeO (strings_Join.f k a0 a1) (strings_Join.f (k + 1) a0 a1) := fun _ _ _ => LeO.refl _
theorem strings_Join.calls (k : Nat) (A0 : Option Addr) (c0 : Nat) (l0 : List ByteArray) (a1 : ByteArray) (r : ByteArray) (w : World) (hr0 : Kd.C Kd.string w A0 l0.length l0) (hc0 : l0.length ≤ c0) (h : strings_Join.f k l0 a1 = some r) :
    Calls Tryd.prog 135 #[.slice A0 l0.length c0, .string a1] w fun e w' => e = .returned (.string r) ∧ Below w.heap.size w w' := by
  unfold strings_Join.f at h
  split at h
  · next hc =>
    cases h
    obtain ⟨h0, hN, hlen⟩ := hc
    obtain ⟨ad, rfl, hx⟩ := Kd.at_string hr0 0 (by omega) (by omega)
    have hx0 : w.cell? ad = some (.string (rdOf ByteArray.empty l0 0)) := hx
    have hlt := World.block_lt_of_cell? w _ hx0
    obtain ⟨bk, o, sp⟩ := ad
    cases sp with
    | some s =>
      exfalso
      simp only [World.cell?] at hx0
      split at hx0 <;> simp at hx0
    | none =>
      refine (Tryd.strings_Join bk o c0 l0 a1 w ?_ hlt hN hc0 hlen)
      intro j x hj
      have hjl : j < l0.length := by
        rcases Nat.lt_or_ge j l0.length with hl | hl
        · exact hl
        · rw [List.getElem?_eq_none hl] at hj; cases hj
      obtain ⟨ad', e, hc⟩ := Kd.at_string hr0 (j : Int) (by omega) (by omega)
      cases e
      rw [Int.toNat_natCast] at hc
      have ea : Addr.add ⟨bk, o, none⟩ j = ⟨bk, o + j, none⟩ := by
        unfold Addr.add
        split
        · next z => subst z; rfl
        · rfl
      rw [ea] at hc
      rw [hc]
      have ex : rdOf ByteArray.empty l0 (j : Int) = x := by
        unfold rdOf
        rw [List.getElem?_eq_getElem hjl] at hj
        cases hj
        simp [List.getD_eq_getElem?_getD, hjl]
      rw [ex]
  · cases h
end Go.Proofs.YtjeklcgflocfoaaDoor.J
