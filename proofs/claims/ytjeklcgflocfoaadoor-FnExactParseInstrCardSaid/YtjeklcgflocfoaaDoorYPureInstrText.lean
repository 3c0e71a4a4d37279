/- InstrText of the program and of the reference agree for all arguments. -/
import Derived.Test.YtjeklcgflocfoaaDoorYPureGoodI
import Derived.Test.YtjeklcgflocfoaaDoorPLaw
namespace Go.Proofs.YtjeklcgflocfoaaDoor.PureOps
open Go.RowKit Go.Proofs.YtjeklcgflocfoaaDoor.P Go.Proofs.YtjeklcgflocfoaaDoorW.PrintWords Go.Proofs.YtjeklcgflocfoaaDoorW.PrintLast Go.Proofs.YtjeklcgflocfoaaDoorW.PrintMore
set_option linter.unusedVariables false
set_option linter.unusedSimpArgs false
theorem hasS_loop (a : ByteArray) (xs : List ByteArray) (hn : xs.length ≤ 9223372036854775807) (d : Nat) : ∀ (k i : Nat), i + d = xs.length → d < k →
    spec_l1HasS.l0 k a xs (xs.length : Int) (i : Int) = some ((xs.drop i).any (fun x => x.toList == a.toList)) := by
  induction d with
  | zero =>
    intro k i h hk
    obtain ⟨k, rfl⟩ : ∃ m, k = m + 1 := ⟨k - 1, by omega⟩
    simp only [spec_l1HasS.l0]
    rw [if_neg (by omega), List.drop_eq_nil_of_le (by omega)]
    rfl
  | succ d ih =>
    intro k i h hk
    obtain ⟨k, rfl⟩ : ∃ m, k = m + 1 := ⟨k - 1, by omega⟩
    have hi : i < xs.length := by omega
    simp only [spec_l1HasS.l0]
    rw [if_pos (by omega), if_pos (by omega), if_pos (by omega), rdOf_getElem xs i hi, List.drop_eq_getElem_cons hi, List.any_cons]
    by_cases hc : xs[i].toList = a.toList
    · rw [if_pos hc]; simp [hc]
    · rw [if_neg hc, wrap64_small (by omega) (by omega), show ((i : Int) + 1) = ((i + 1 : Nat) : Int) by omega, ih k (i + 1) (by omega) (by omega)]
      simp [hc]
/-- The ops that carry a number. -/
def immL : List (List UInt8) := [[115, 101, 116], [97, 100, 100, 105], [97, 110, 100, 105], [120, 111, 114, 105], [115, 104, 108, 105], [115, 104, 114, 105], [108, 101, 97]]
theorem cdImm_any (k : Nat) (hk : 7 < k) (a : ByteArray) : spec_cdImm.f k a = some (immL.any (fun x => x == a.toList)) := by
  unfold spec_cdImm.f spec_l1HasS.f
  have h := hasS_loop a ([(⟨#[115, 101, 116]⟩ : ByteArray), (⟨#[97, 100, 100, 105]⟩ : ByteArray), (⟨#[97, 110, 100, 105]⟩ : ByteArray), (⟨#[120, 111, 114, 105]⟩ : ByteArray), (⟨#[115, 104, 108, 105]⟩ : ByteArray), (⟨#[115, 104, 114, 105]⟩ : ByteArray), (⟨#[108, 101, 97]⟩ : ByteArray)] : List ByteArray) (by simp) 7 k 0 rfl hk
  rw [List.drop_zero, show ((0 : Nat) : Int) = 0 from rfl] at h
  rw [h, show immL = ([(⟨#[115, 101, 116]⟩ : ByteArray), (⟨#[97, 100, 100, 105]⟩ : ByteArray), (⟨#[97, 110, 100, 105]⟩ : ByteArray), (⟨#[120, 111, 114, 105]⟩ : ByteArray), (⟨#[115, 104, 108, 105]⟩ : ByteArray), (⟨#[115, 104, 114, 105]⟩ : ByteArray), (⟨#[108, 101, 97]⟩ : ByteArray)] : List ByteArray).map (·.toList) by decide +kernel, List.any_map]
  rfl
theorem immL_shape (o : List UInt8) (h : (shape o).2.2.2.2.2 = true) : immL.any (fun x => x == o) = decide ((shape o).2.2.1 ≤ (shape o).2.2.2.1) := by
  unfold shape at h ⊢
  split at h
  · next e => subst e; rfl
  split at h
  · next n e => rcases e with e | e | e <;> (subst e; rfl)
  split at h
  · next n1 n2 e =>
    simp only [two, opsL, List.any_cons, List.any_nil, Bool.or_false, Bool.or_eq_true, beq_iff_eq] at e
    rcases e with e | e | e | e | e | e | e | e | e | e <;> (subst e; rfl)
  split at h
  · next n1 n2 n3 e => rcases e with e | e | e <;> (subst e; rfl)
  split at h
  · next n1 n2 n3 n4 e => rcases e with e | e <;> (subst e; rfl)
  split at h
  · next n1 n2 n3 n4 n5 e => subst e; rfl
  · exact absurd h (by decide)
theorem op_short (o : List UInt8) (h : (shape o).2.2.2.2.2 = true) : o.length ≤ 4 := by
  unfold shape at h
  split at h
  · next e => subst e; decide
  split at h
  · next n e => rcases e with e | e | e <;> (subst e; decide)
  split at h
  · next n1 n2 e =>
    simp only [two, opsL, List.any_cons, List.any_nil, Bool.or_false, Bool.or_eq_true, beq_iff_eq] at e
    rcases e with e | e | e | e | e | e | e | e | e | e <;> (subst e; decide)
  split at h
  · next n1 n2 n3 e => rcases e with e | e | e <;> (subst e; decide)
  split at h
  · next n1 n2 n3 n4 e => rcases e with e | e <;> (subst e; decide)
  split at h
  · next n1 n2 n3 n4 n5 e => subst e; decide
  · exact absurd h (by decide)
theorem shape_hi (o : List UInt8) : (shape o).2.2.2.1 ≤ 63 ∧ 0 ≤ (shape o).2.2.1 := by
  unfold shape
  repeat' split
  all_goals simp
/-- The digits of a number. -/
def num (x : Int) : ByteArray := ⟨(Lib.decDigits x.toNat).toArray⟩
theorem num_size (x : Int) (h : x.toNat < 100) : (num x).size ≤ 2 := by
  unfold num
  rw [itoaTwo_eq _ h, itoaTwo]
  split
  · exact (by decide : (1 : Nat) ≤ 2)
  · exact Nat.le_refl 2
theorem l1Num_up (x : Int) (r : ByteArray) : ∀ j k : Nat, j ≤ k → spec_l1Num.f j x = some r → spec_l1Num.f k x = some r := by
  intro j k h e
  induction h with
  | refl => exact e
  | step _ ih => exact spec_l1Num.mono x _ r ih
theorem l1Num_num (k : Nat) (hk : 3 ≤ k) (x : Int) (h0 : 0 ≤ x) (h1 : x < 100) : spec_l1Num.f k x = some (num x) := by
  obtain ⟨i, rfl⟩ := Int.eq_ofNat_of_zero_le h0
  exact l1Num_up _ _ 3 k hk (itoaSmall i (by omega))
theorem itoa_num (k : Nat) (x : Int) (h0 : 0 ≤ x) (h1 : x < 100) : strconv_Itoa_98.f k x = some (num x) := by
  unfold strconv_Itoa_98.f
  rw [if_pos ⟨h0, h1⟩, l1Num_num 3 (by omega) x h0 h1]
theorem goodI_num {o : List UInt8} {d a b m : Int} (h : goodI o d a b m = true) : (shape o).2.2.2.2.2 = true ∧ (0 ≤ d ∧ d ≤ 5) ∧ (0 ≤ a ∧ a ≤ 5) ∧ (0 ≤ b ∧ b ≤ 5) ∧ (0 ≤ m ∧ m ≤ 63) := by
  unfold goodI at h
  have hs := shape_hi o
  simp only [Bool.and_eq_true, Bool.or_eq_true, reg_iff, decide_eq_true_eq, beq_iff_eq, Bool.not_eq_true', decide_eq_false_iff_not] at h
  obtain ⟨h1, h2, h3, h4, h5⟩ := h
  refine ⟨h2, h3, ?_, ?_, ?_⟩
  · rcases h4 with h4 | h4
    · exact h4.2
    · omega
  · rcases h5 with h5 | h5
    · exact h5.2
    · omega
  · rcases h1 with h1 | h1 <;> omega
/-- The text of a right instruction. -/
def txt (o : ByteArray) (d a b m : Int) : ByteArray :=
  let s := (o ++ (⟨#[32, 114]⟩ : ByteArray)) ++ num d
  let s := if (shape o.toList).1 = true then s ++ ((⟨#[32, 114]⟩ : ByteArray) ++ num a) else s
  let s := if (shape o.toList).2.1 = true then s ++ ((⟨#[32, 114]⟩ : ByteArray) ++ num b) else s
  if decide ((shape o.toList).2.2.1 ≤ (shape o.toList).2.2.2.1) = true then s ++ ((⟨#[32]⟩ : ByteArray) ++ num m) else s
theorem sp1 : (⟨#[32]⟩ : ByteArray).size = 1 := rfl
theorem sp2 : (⟨#[32, 114]⟩ : ByteArray).size = 2 := rfl
theorem size_len (o : ByteArray) : o.size = o.toList.length := by
  rw [← size_of_list (rfl : o.toList = o.toList)]
theorem text_impl (k : Nat) (hk : 12 < k) (o : ByteArray) (d a b m : Int) (h : goodI o.toList d a b m = true) : impl_Instr_text.f k o d a b m = some (txt o d a b m) := by
  obtain ⟨hop, hd, ha, hb, hm⟩ := goodI_num h
  have ho : o.size ≤ 4 := by rw [size_len]; exact op_short _ hop
  have nd := num_size d (by omega)
  have na := num_size a (by omega)
  have nb := num_size b (by omega)
  have nm := num_size m (by omega)
  obtain ⟨s', e⟩ := formOf_f k hk o
  obtain ⟨k, rfl⟩ : ∃ n, k = n + 2 := ⟨k - 2, by omega⟩
  have J1 : ∀ j s, s.size ≤ 1000 → impl_Instr_text.j1 (j + 1) s o d a b m (shape o.toList).1 (shape o.toList).2.1 (shape o.toList).2.2.1 (shape o.toList).2.2.2.1 (shape o.toList).2.2.2.2.1 s' = some (if decide ((shape o.toList).2.2.1 ≤ (shape o.toList).2.2.2.1) = true then s ++ ((⟨#[32]⟩ : ByteArray) ++ num m) else s) := by
    intro j s hs
    simp only [impl_Instr_text.j1, imm_f, Option.bind_some, itoa_num j m hm.1 (by omega)]
    split
    · rw [if_pos (by omega), if_pos (by simp only [ByteArray.size_append, sp1]; omega)]
    · rfl
  have J0 : ∀ j s, s.size ≤ 500 → impl_Instr_text.j0 (j + 2) s o d a b m (shape o.toList).1 (shape o.toList).2.1 (shape o.toList).2.2.1 (shape o.toList).2.2.2.1 (shape o.toList).2.2.2.2.1 s' = some (if decide ((shape o.toList).2.2.1 ≤ (shape o.toList).2.2.2.1) = true then (if (shape o.toList).2.1 = true then s ++ ((⟨#[32, 114]⟩ : ByteArray) ++ num b) else s) ++ ((⟨#[32]⟩ : ByteArray) ++ num m) else (if (shape o.toList).2.1 = true then s ++ ((⟨#[32, 114]⟩ : ByteArray) ++ num b) else s)) := by
    intro j s hs
    simp only [impl_Instr_text.j0, Option.bind_some, itoa_num (j + 1) b hb.1 (by omega)]
    by_cases u : (shape o.toList).2.1 = true
    · rw [if_pos u, if_pos (by omega), if_pos (by simp only [ByteArray.size_append, sp2]; omega), J1 j _ (by simp only [ByteArray.size_append, sp2]; omega), if_pos u]
    · rw [if_neg u, J1 j _ (by omega), if_neg u]
  unfold impl_Instr_text.f
  rw [e]
  simp only [Option.bind_some, itoa_num (k + 2) d hd.1 (by omega), itoa_num (k + 2) a ha.1 (by omega)]
  rw [if_pos (by omega), if_pos (by simp only [ByteArray.size_append, sp2]; omega)]
  unfold txt
  by_cases u : (shape o.toList).1 = true
  · rw [if_pos u, if_pos (by omega), if_pos (by simp only [ByteArray.size_append, sp2]; omega), J0 k _ (by simp only [ByteArray.size_append, sp2]; omega)]
    simp only [if_pos u]
  · rw [if_neg u, J0 k _ (by simp only [ByteArray.size_append, sp2]; omega)]
    simp only [if_neg u]
theorem text_spec (k : Nat) (hk : 12 < k) (o : ByteArray) (d a b m : Int) (h : goodI o.toList d a b m = true) : spec_cdText.f k o d a b m = some (txt o d a b m) := by
  obtain ⟨hop, hd, ha, hb, hm⟩ := goodI_num h
  have ho : o.size ≤ 4 := by rw [size_len]; exact op_short _ hop
  have nd := num_size d (by omega)
  have na := num_size a (by omega)
  have nb := num_size b (by omega)
  have nm := num_size m (by omega)
  have e := cdShape_f k (by omega) o
  have e2 := immL_shape _ hop
  obtain ⟨k, rfl⟩ : ∃ n, k = n + 10 := ⟨k - 10, by omega⟩
  have J1 : ∀ j s, s.size ≤ 1000 → spec_cdText.j1 (j + 9) s o d a b m = some (if decide ((shape o.toList).2.2.1 ≤ (shape o.toList).2.2.2.1) = true then s ++ ((⟨#[32]⟩ : ByteArray) ++ num m) else s) := by
    intro j s hs
    simp only [spec_cdText.j1, cdImm_any (j + 8) (by omega), e2, Option.bind_some, l1Num_num (j + 8) (by omega) m hm.1 (by omega)]
    split
    · rw [if_pos (by omega), if_pos (by simp only [ByteArray.size_append, sp1]; omega)]
    · rfl
  have J0 : ∀ j s, s.size ≤ 500 → spec_cdText.j0 (j + 10) (shape o.toList).2.1 s o d a b m = some (if decide ((shape o.toList).2.2.1 ≤ (shape o.toList).2.2.2.1) = true then (if (shape o.toList).2.1 = true then s ++ ((⟨#[32, 114]⟩ : ByteArray) ++ num b) else s) ++ ((⟨#[32]⟩ : ByteArray) ++ num m) else (if (shape o.toList).2.1 = true then s ++ ((⟨#[32, 114]⟩ : ByteArray) ++ num b) else s)) := by
    intro j s hs
    simp only [spec_cdText.j0, Option.bind_some, l1Num_num (j + 9) (by omega) b hb.1 (by omega)]
    by_cases u : (shape o.toList).2.1 = true
    · rw [if_pos u, if_pos (by omega), if_pos (by simp only [ByteArray.size_append, sp2]; omega), J1 j _ (by simp only [ByteArray.size_append, sp2]; omega), if_pos u]
    · rw [if_neg u, J1 j _ (by omega), if_neg u]
  unfold spec_cdText.f
  rw [e]
  simp only [Option.bind_some, l1Num_num (k + 10) (by omega) d hd.1 (by omega), l1Num_num (k + 10) (by omega) a ha.1 (by omega)]
  rw [if_pos (by omega), if_pos (by simp only [ByteArray.size_append, sp2]; omega)]
  unfold txt
  by_cases u : (shape o.toList).1 = true
  · rw [if_pos u, if_pos (by omega), if_pos (by simp only [ByteArray.size_append, sp2]; omega), J0 k _ (by simp only [ByteArray.size_append, sp2]; omega)]
    simp only [if_pos u]
  · rw [if_neg u, J0 k _ (by simp only [ByteArray.size_append, sp2]; omega)]
    simp only [if_neg u]
end Go.Proofs.YtjeklcgflocfoaaDoor.PureOps
