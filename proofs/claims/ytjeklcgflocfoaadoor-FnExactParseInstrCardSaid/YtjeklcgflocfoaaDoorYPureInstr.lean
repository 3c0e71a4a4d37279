/- Instructions, as the program and the reference tell them: what an op uses, and which instructions are right. Plain. -/
import Derived.Test.YtjeklcgflocfoaaDoorYPureContains
import Derived.Test.YtjeklcgflocfoaaDoorPLaw
namespace Go.Proofs.YtjeklcgflocfoaaDoor.PureOps
open Go.RowKit Go.Proofs.YtjeklcgflocfoaaDoor.P Go.Proofs.YtjeklcgflocfoaaDoorW.PrintWords Go.Proofs.YtjeklcgflocfoaaDoorW.PrintLast Go.Proofs.YtjeklcgflocfoaaDoorW.PrintMore
set_option linter.unusedVariables false
set_option linter.unusedSimpArgs false

/-- What an op uses: A, B, the range of Imm, its cost, and whether it is one. -/
def shape (o : List UInt8) : Bool × Bool × Int × Int × Int × Bool :=
  if o = [115, 101, 116] then (false, false, 0, 63, 1, true)
  else if o = [109, 111, 118] ∨ o = [110, 111, 116] ∨ o = [110, 101, 103] then (true, false, 1, 0, 1, true)
  else if two o = true then (true, true, 1, 0, if o = [109, 117, 108] then 4 else if o = [115, 104, 108] ∨ o = [115, 104, 114] then 2 else 1, true)
  else if o = [97, 100, 100, 105] ∨ o = [97, 110, 100, 105] ∨ o = [120, 111, 114, 105] then (true, false, 0, 63, 1, true)
  else if o = [115, 104, 108, 105] ∨ o = [115, 104, 114, 105] then (true, false, 1, 5, 1, true)
  else if o = [108, 101, 97] then (true, true, 1, 3, 1, true)
  else (false, false, 0, 0, 0, false)

theorem j3_f (k : Nat) (hk : 0 < k) (a : ByteArray) (b : Bool) (hs : b = true → 3 ≤ a.size) (x y : Bool) (p q r : Int) (s : ByteArray) :
    ∃ s', impl_formOf.j3 k a b x y p q r s = some (if b = true then (true, y, 1, 5, r, s', true) else if a.toList = [108, 101, 97] then (true, true, 1, 3, r, s', true) else (false, false, 0, 0, 0, s', false)) := by
  obtain ⟨k, rfl⟩ : ∃ m, k = m + 1 := ⟨k - 1, by omega⟩
  simp only [impl_formOf.j3]
  cases b with
  | true => exact ⟨a.extract 0 3, by rw [if_pos rfl, if_pos (by decide), if_pos (by have := hs rfl; omega), if_pos rfl]⟩
  | false =>
    rw [if_neg (show ¬ (false = true) by decide)]
    by_cases h : a.toList = [108, 101, 97]
    · exact ⟨s, by rw [if_pos h, if_neg (show ¬ (false = true) by decide), if_pos h]⟩
    · exact ⟨⟨#[]⟩, by rw [if_neg h, if_neg (show ¬ (false = true) by decide), if_neg h]⟩
theorem j2_f (k : Nat) (hk : 1 < k) (a : ByteArray) (b : Bool) (hs : b = true → 3 ≤ a.size) (x y : Bool) (p q r : Int) (s : ByteArray) :
    ∃ s', impl_formOf.j2 k a b x y p q r s = some (if b = true then (true, y, 0, 63, r, s', true) else if a.toList = [115, 104, 108, 105] ∨ a.toList = [115, 104, 114, 105] then (true, y, 1, 5, r, s', true) else if a.toList = [108, 101, 97] then (true, true, 1, 3, r, s', true) else (false, false, 0, 0, 0, s', false)) := by
  obtain ⟨k, rfl⟩ : ∃ m, k = m + 1 := ⟨k - 1, by omega⟩
  simp only [impl_formOf.j2]
  cases b with
  | true => exact ⟨a.extract 0 3, by rw [if_pos rfl, if_pos (by decide), if_pos (by have := hs rfl; omega), if_pos rfl]⟩
  | false =>
    rw [if_neg (show ¬ (false = true) by decide)]
    by_cases h : a.toList = [115, 104, 108, 105]
    · rw [if_pos h]
      obtain ⟨s', e⟩ := j3_f k (by omega) a (a.toList == [115, 104, 108, 105]) (fun _ => by rw [size_of_list h]; decide) x y p q r s
      exact ⟨s', by rw [e]; simp [h]⟩
    · rw [if_neg h]
      obtain ⟨s', e⟩ := j3_f k (by omega) a (a.toList == [115, 104, 114, 105]) (fun e => by rw [size_of_list (eq_of_beq e)]; decide) x y p q r s
      exact ⟨s', by rw [e]; by_cases h2 : a.toList = [115, 104, 114, 105] <;> simp [h, h2]⟩
theorem j1_f (k : Nat) (hk : 0 < k) (a : ByteArray) (b x y : Bool) (p q r : Int) (s : ByteArray) :
    impl_formOf.j1 k a b x y p q r s = some (x, y, p, q, if a.toList = [109, 117, 108] then 4 else if b = true then 2 else r, s, true) := by
  obtain ⟨k, rfl⟩ : ∃ m, k = m + 1 := ⟨k - 1, by omega⟩
  simp only [impl_formOf.j1]
  cases b <;> by_cases h : a.toList = [109, 117, 108] <;> simp [h]
theorem tw1 : two [115, 104, 108] = true := by decide
theorem tw2 : two [115, 104, 114] = true := by decide
theorem tw3 : two [97, 100, 100, 105] = false := by decide
theorem tw4 : two [97, 110, 100, 105] = false := by decide
theorem tw5 : two [120, 111, 114, 105] = false := by decide
theorem j0_f (k : Nat) (hk : 12 < k) (a : ByteArray) (b : Bool) :
    ∃ s', impl_formOf.j0 k a b false false 1 0 1 a = some (if b = true then (true, false, 1, 0, 1, s', true)
      else if two a.toList = true then (true, true, 1, 0, if a.toList = [109, 117, 108] then 4 else if a.toList = [115, 104, 108] ∨ a.toList = [115, 104, 114] then 2 else 1, s', true)
      else if a.toList = [97, 100, 100, 105] ∨ a.toList = [97, 110, 100, 105] ∨ a.toList = [120, 111, 114, 105] then (true, false, 0, 63, 1, s', true)
      else if a.toList = [115, 104, 108, 105] ∨ a.toList = [115, 104, 114, 105] then (true, false, 1, 5, 1, s', true)
      else if a.toList = [108, 101, 97] then (true, true, 1, 3, 1, s', true)
      else (false, false, 0, 0, 0, s', false)) := by
  obtain ⟨k, rfl⟩ : ∃ m, k = m + 1 := ⟨k - 1, by omega⟩
  simp only [impl_formOf.j0]
  cases b with
  | true => exact ⟨a, by rw [if_pos rfl, if_pos rfl]⟩
  | false =>
    rw [if_neg (show ¬ (false = true) by decide), ← Option.bind_assoc, contains_two k (by omega) a, Option.bind_some]
    by_cases h2 : two a.toList = true
    · rw [if_pos h2]
      by_cases h : a.toList = [115, 104, 108]
      · exact ⟨a, by rw [if_pos h, j1_f k (by omega)]; simp [h, tw1, tw3]⟩
      · exact ⟨a, by rw [if_neg h, j1_f k (by omega)]; by_cases h3 : a.toList = [115, 104, 114] <;> simp [h2, h, h3, tw2]⟩
    · rw [if_neg h2]
      by_cases h : a.toList = [97, 100, 100, 105]
      · rw [if_pos h]
        obtain ⟨s', e⟩ := j2_f k (by omega) a (a.toList == [97, 100, 100, 105]) (fun _ => by rw [size_of_list h]; decide) false false 1 0 1 a
        exact ⟨s', by rw [e]; simp [h, tw1, tw3]⟩
      · rw [if_neg h]
        by_cases h' : a.toList = [97, 110, 100, 105]
        · rw [if_pos h']
          obtain ⟨s', e⟩ := j2_f k (by omega) a (a.toList == [97, 110, 100, 105]) (fun _ => by rw [size_of_list h']; decide) false false 1 0 1 a
          exact ⟨s', by rw [e]; simp [h', tw4]⟩
        · rw [if_neg h']
          obtain ⟨s', e⟩ := j2_f k (by omega) a (a.toList == [120, 111, 114, 105]) (fun e => by rw [size_of_list (eq_of_beq e)]; decide) false false 1 0 1 a
          exact ⟨s', by rw [e]; by_cases h3 : a.toList = [120, 111, 114, 105] <;> simp [h2, h, h', h3, tw5]⟩
theorem formOf_f (k : Nat) (hk : 12 < k) (a : ByteArray) :
    ∃ s', impl_formOf.f k a = some ((shape a.toList).1, (shape a.toList).2.1, (shape a.toList).2.2.1, (shape a.toList).2.2.2.1, (shape a.toList).2.2.2.2.1, s', (shape a.toList).2.2.2.2.2) := by
  unfold impl_formOf.f
  by_cases h0 : a.toList = [115, 101, 116]
  · exact ⟨a, by rw [if_pos h0]; simp [shape, h0]⟩
  rw [if_neg h0]
  have fin : ∀ b, (b = true ↔ (a.toList = [109, 111, 118] ∨ a.toList = [110, 111, 116] ∨ a.toList = [110, 101, 103])) → ∃ s', impl_formOf.j0 k a b false false 1 0 1 a = some ((shape a.toList).1, (shape a.toList).2.1, (shape a.toList).2.2.1, (shape a.toList).2.2.2.1, (shape a.toList).2.2.2.2.1, s', (shape a.toList).2.2.2.2.2) := by
    intro b hb
    obtain ⟨s', e⟩ := j0_f k hk a b
    refine ⟨s', ?_⟩
    rw [e]
    unfold shape
    rw [if_neg h0]
    cases b with
    | true => rw [if_pos rfl, if_pos (hb.1 rfl)]
    | false =>
      rw [if_neg (show ¬ (false = true) by decide), if_neg (fun x => absurd (hb.2 x) (by decide))]
      repeat' split
      all_goals rfl
  by_cases h1 : a.toList = [109, 111, 118]
  · rw [if_pos h1]; exact fin _ (by simp [h1])
  · rw [if_neg h1]
    by_cases h2 : a.toList = [110, 111, 116]
    · rw [if_pos h2]; exact fin _ (by simp [h2])
    · rw [if_neg h2]; exact fin _ (by simp [h1, h2])
theorem cdShape_f (k : Nat) (hk : 4 < k) (a : ByteArray) :
    spec_cdShape.f k a = some ((shape a.toList).2.2.2.2.2, (shape a.toList).1, (shape a.toList).2.1, if (shape a.toList).2.2.1 ≤ (shape a.toList).2.2.2.1 then (shape a.toList).2.2.1 else 0, (shape a.toList).2.2.2.1) := by
  obtain ⟨k, rfl⟩ : ∃ m, k = m + 4 := ⟨k - 4, by omega⟩
  have j3 : ∀ b, spec_cdShape.j3 (k + 1) a b = some (if b = true then (true, true, false, 1, 5) else if a.toList = [108, 101, 97] then (true, true, true, 1, 3) else (false, false, false, 0, 0)) := by
    intro b
    simp only [spec_cdShape.j3]
    cases b <;> simp <;> split <;> rfl
  have j2 : ∀ b, spec_cdShape.j2 (k + 2) a b = some (if b = true then (true, true, false, 0, 63) else if a.toList = [115, 104, 108, 105] ∨ a.toList = [115, 104, 114, 105] then (true, true, false, 1, 5) else if a.toList = [108, 101, 97] then (true, true, true, 1, 3) else (false, false, false, 0, 0)) := by
    intro b
    simp only [spec_cdShape.j2]
    cases b with
    | true => rfl
    | false =>
      rw [if_neg (show ¬ (false = true) by decide), if_neg (show ¬ (false = true) by decide), j3, j3]
      by_cases h : a.toList = [115, 104, 108, 105]
      · simp [h]
      · by_cases h' : a.toList = [115, 104, 114, 105] <;> simp [h, h']
  have j1 : ∀ b, spec_cdShape.j1 (k + 3) a b = some (if b = true then (true, true, true, 0, 0) else if a.toList = [97, 100, 100, 105] ∨ a.toList = [97, 110, 100, 105] ∨ a.toList = [120, 111, 114, 105] then (true, true, false, 0, 63) else if a.toList = [115, 104, 108, 105] ∨ a.toList = [115, 104, 114, 105] then (true, true, false, 1, 5) else if a.toList = [108, 101, 97] then (true, true, true, 1, 3) else (false, false, false, 0, 0)) := by
    intro b
    simp only [spec_cdShape.j1]
    cases b with
    | true => rfl
    | false =>
      rw [if_neg (show ¬ (false = true) by decide), if_neg (show ¬ (false = true) by decide), j2, j2, j2]
      by_cases h : a.toList = [97, 100, 100, 105]
      · simp [h]
      · by_cases h' : a.toList = [97, 110, 100, 105]
        · simp [h']
        · by_cases h2 : a.toList = [120, 111, 114, 105] <;> simp [h, h', h2]
  have j0 : ∀ b, spec_cdShape.j0 (k + 4) a b = some (if b = true then (true, true, false, 0, 0) else if two a.toList = true then (true, true, true, 0, 0) else if a.toList = [97, 100, 100, 105] ∨ a.toList = [97, 110, 100, 105] ∨ a.toList = [120, 111, 114, 105] then (true, true, false, 0, 63) else if a.toList = [115, 104, 108, 105] ∨ a.toList = [115, 104, 114, 105] then (true, true, false, 1, 5) else if a.toList = [108, 101, 97] then (true, true, true, 1, 3) else (false, false, false, 0, 0)) := by
    intro b
    simp only [spec_cdShape.j0]
    cases b with
    | true => rfl
    | false =>
      rw [if_neg (show ¬ (false = true) by decide), if_neg (show ¬ (false = true) by decide)]
      simp only [j1]
      by_cases h2 : two a.toList = true
      · have h3 := h2
        simp only [two, opsL, List.any_cons, List.any_nil, Bool.or_false, Bool.or_eq_true, beq_iff_eq] at h3
        rcases h3 with h | h | h | h | h | h | h | h | h | h <;> (rw [if_pos h2]; simp [← h])
      · have h3 := h2
        simp only [two, opsL, List.any_cons, List.any_nil, Bool.or_false, Bool.or_eq_true, beq_iff_eq, not_or] at h3
        obtain ⟨n1, n2, n3, n4, n5, n6, n7, n8, n9, n10⟩ := h3
        rw [if_neg h2]
        simp only [if_neg (fun e => n1 (Eq.symm e)), if_neg (fun e => n2 (Eq.symm e)), if_neg (fun e => n4 (Eq.symm e)), if_neg (fun e => n5 (Eq.symm e)), if_neg (fun e => n6 (Eq.symm e)), if_neg (fun e => n7 (Eq.symm e)), if_neg (fun e => n8 (Eq.symm e)), if_neg (fun e => n9 (Eq.symm e)), if_neg (fun e => n10 (Eq.symm e))]
        rw [show (a.toList == [109, 117, 108]) = false from beq_eq_false_iff_ne.2 (fun e => n3 e.symm)]
        rfl
  unfold spec_cdShape.f
  simp only [j0]
  unfold shape
  by_cases h0 : a.toList = [115, 101, 116]
  · simp [h0]
  simp only [if_neg h0]
  by_cases h1 : a.toList = [109, 111, 118]
  · simp [h1]
  · by_cases h2 : a.toList = [110, 111, 116]
    · simp [h2]
    · by_cases h3 : a.toList = [110, 101, 103]
      · simp [h3]
      · simp only [h1, h2, h3, if_false, false_or, beq_eq_false_iff_ne.2 h3]
        repeat' split
        all_goals first | rfl | simp_all
end Go.Proofs.YtjeklcgflocfoaaDoor.PureOps
