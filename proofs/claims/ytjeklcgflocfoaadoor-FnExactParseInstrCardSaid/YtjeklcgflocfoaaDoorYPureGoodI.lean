/- Which instructions are right: the program and the reference tell the same. Plain. -/
import Derived.Test.YtjeklcgflocfoaaDoorYPureInstr
import Derived.Test.YtjeklcgflocfoaaDoorPLaw
namespace Go.Proofs.YtjeklcgflocfoaaDoor.PureOps
open Go.RowKit Go.Proofs.YtjeklcgflocfoaaDoor.P Go.Proofs.YtjeklcgflocfoaaDoorW.PrintWords Go.Proofs.YtjeklcgflocfoaaDoorW.PrintLast Go.Proofs.YtjeklcgflocfoaaDoorW.PrintMore
set_option linter.unusedVariables false
set_option linter.unusedSimpArgs false

def reg (x : Int) : Bool := decide (0 ≤ x) && decide (x ≤ 5)
theorem reg_iff {x : Int} : reg x = true ↔ 0 ≤ x ∧ x ≤ 5 := by simp [reg]
theorem within_f (x l h : Int) : impl_within.f x l h = some (decide (l ≤ x) && decide (x ≤ h)) := by
  unfold impl_within.f
  by_cases e : l ≤ x <;> simp [e]
theorem l1In_f (x l h : Int) : spec_l1In.f x l h = some (decide (l ≤ x) && decide (x ≤ h)) := by
  unfold spec_l1In.f
  by_cases e : l ≤ x <;> simp [e]
theorem isRegister_f (x : Int) : impl_isRegister.f x = some (reg x) := by
  unfold impl_isRegister.f reg
  rw [within_f]; rfl
theorem cdReg_f (x : Int) : spec_cdReg.f x = some (reg x) := by
  unfold spec_cdReg.f reg
  rw [l1In_f]; rfl
theorem isUsed_f (u : Bool) (r : Int) : impl_isUsed.f u r = some ((u && reg r) || r == 0) := by
  unfold impl_isUsed.f
  rw [isRegister_f]
  cases u <;> cases h : reg r <;> simp [h]
theorem imm_f (x y : Bool) (l h c : Int) (s : ByteArray) : impl_form_imm.f x y l h c s = some (decide (l ≤ h)) := rfl
theorem shape_range (o : List UInt8) : (shape o).2.2.1 ≤ (shape o).2.2.2.1 ∨ ((shape o).2.2.1 = 1 ∧ (shape o).2.2.2.1 = 0) := by
  unfold shape
  repeat' split
  all_goals simp

/-- An instruction is right. -/
def goodI (o : List UInt8) (d a b m : Int) : Bool :=
  ((decide ((shape o).2.2.1 ≤ (shape o).2.2.2.1) && (decide ((shape o).2.2.1 ≤ m) && decide (m ≤ (shape o).2.2.2.1))) || (!decide ((shape o).2.2.1 ≤ (shape o).2.2.2.1) && m == 0)) && ((shape o).2.2.2.2.2 && (reg d && ((((shape o).1 && reg a) || a == 0) && (((shape o).2.1 && reg b) || b == 0))))

theorem isInstr_f (k : Nat) (hk : 12 < k) (o : ByteArray) (d a b m : Int) : impl_IsInstr.f k o d a b m = some (goodI o.toList d a b m) := by
  unfold impl_IsInstr.f goodI
  obtain ⟨s', e⟩ := formOf_f k hk o
  rw [e]
  simp only [Option.bind_some, imm_f, within_f, isRegister_f, isUsed_f]
  generalize decide ((shape o.toList).2.2.1 ≤ (shape o.toList).2.2.2.1) = B1
  generalize (decide ((shape o.toList).2.2.1 ≤ m) && decide (m ≤ (shape o.toList).2.2.2.1)) = B2
  generalize (shape o.toList).2.2.2.2.2 = B3
  generalize reg d = B4
  generalize (((shape o.toList).1 && reg a) || a == 0) = B5
  generalize (((shape o.toList).2.1 && reg b) || b == 0) = B6
  generalize (m == 0) = B7
  cases B1 <;> cases B2 <;> cases B3 <;> cases B4 <;> cases B5 <;> cases B6 <;> cases B7 <;> rfl
theorem cdGood_f (k : Nat) (hk : 4 < k) (o : ByteArray) (d a b m : Int) : spec_cdGood.f k o d a b m = some (goodI o.toList d a b m) := by
  have key : spec_cdGood.f k o d a b m = some ((shape o.toList).2.2.2.2.2 && (reg d && (reg a && (reg b && ((decide ((if (shape o.toList).2.2.1 ≤ (shape o.toList).2.2.2.1 then (shape o.toList).2.2.1 else 0) ≤ m) && decide (m ≤ (shape o.toList).2.2.2.1)) && (((shape o.toList).1 || a == 0) && ((shape o.toList).2.1 || b == 0))))))) := by
    unfold spec_cdGood.f
    rw [cdShape_f k hk]
    simp only [Option.bind_some, cdReg_f, l1In_f]
    generalize (decide ((if (shape o.toList).2.2.1 ≤ (shape o.toList).2.2.2.1 then (shape o.toList).2.2.1 else 0) ≤ m) && decide (m ≤ (shape o.toList).2.2.2.1)) = B2
    generalize (shape o.toList).2.2.2.2.2 = B3
    generalize reg d = B4
    generalize reg a = B5
    generalize reg b = B6
    generalize (shape o.toList).1 = B7
    generalize (shape o.toList).2.1 = B8
    by_cases ha : a = 0
    · cases B2 <;> cases B3 <;> cases B4 <;> cases B5 <;> cases B6 <;> cases B7 <;> cases B8 <;> simp [ha]
    · cases B2 <;> cases B3 <;> cases B4 <;> cases B5 <;> cases B6 <;> cases B7 <;> cases B8 <;> simp [ha]
  rw [key]
  unfold goodI
  congr 1
  rw [Bool.eq_iff_iff]
  have hr := shape_range o.toList
  generalize (shape o.toList).2.2.1 = lo at *
  generalize (shape o.toList).2.2.2.1 = hi at *
  simp only [Bool.and_eq_true, Bool.or_eq_true, reg_iff, decide_eq_true_eq, beq_iff_eq, Bool.not_eq_true', decide_eq_false_iff_not]
  by_cases hlo : lo ≤ hi
  · rw [if_pos hlo]
    constructor
    · rintro ⟨h1, h2, h3, h4, ⟨h5, h6⟩, h7, h8⟩
      exact ⟨.inl ⟨hlo, h5, h6⟩, h1, h2, h7.elim (fun u => .inl ⟨u, h3⟩) .inr, h8.elim (fun u => .inl ⟨u, h4⟩) .inr⟩
    · rintro ⟨h1 | h1, h2, h3, h4, h5⟩
      · refine ⟨h2, h3, ?_, ?_, h1.2, ?_, ?_⟩
        · rcases h4 with h4 | h4
          · exact h4.2
          · omega
        · rcases h5 with h5 | h5
          · exact h5.2
          · omega
        · exact h4.elim (fun u => .inl u.1) .inr
        · exact h5.elim (fun u => .inl u.1) .inr
      · exact absurd hlo h1.1
  · rw [if_neg hlo]
    obtain ⟨r1, r2⟩ := hr.resolve_left hlo
    constructor
    · rintro ⟨h1, h2, h3, h4, ⟨h5, h6⟩, h7, h8⟩
      exact ⟨.inr ⟨hlo, by omega⟩, h1, h2, h7.elim (fun u => .inl ⟨u, h3⟩) .inr, h8.elim (fun u => .inl ⟨u, h4⟩) .inr⟩
    · rintro ⟨h1 | h1, h2, h3, h4, h5⟩
      · exact absurd h1.1 hlo
      · refine ⟨h2, h3, ?_, ?_, ⟨by omega, by omega⟩, ?_, ?_⟩
        · rcases h4 with h4 | h4
          · exact h4.2
          · omega
        · rcases h5 with h5 | h5
          · exact h5.2
          · omega
        · exact h4.elim (fun u => .inl u.1) .inr
        · exact h5.elim (fun u => .inl u.1) .inr
end Go.Proofs.YtjeklcgflocfoaaDoor.PureOps
