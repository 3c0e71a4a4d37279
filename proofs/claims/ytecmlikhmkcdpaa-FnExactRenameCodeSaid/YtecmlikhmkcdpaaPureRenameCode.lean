/- RenameCode of the program and of the reference agree for all arguments. -/
import Derived.Test.YtecmlikhmkcdpaaPureMarksI
import Derived.Test.YtecmlikhmkcdpaaPureNames
import Derived.Test.YtecmlikhmkcdpaaMKinds
import Derived.Test.YtecmlikhmkcdpaaFImplRenameCode
import Derived.Test.YtecmlikhmkcdpaaFSpecRenameCode
import Derived.Test.YtecmlikhmkcdpaaFLawsFnExactRenameCode
namespace Go.Proofs.Ytecmlikhmkcdpaa.PureCd
open Go.RowKit Go.Proofs.Ytecmlikhmkcdpaa.PureOps Go.Proofs.Ytecmlikhmkcdpaa.F Go.Proofs.YtecmlikhmkcdpaaW.PrintWords Go.Proofs.YtecmlikhmkcdpaaW.PrintLast Go.Proofs.YtecmlikhmkcdpaaW.PrintMore Go.Proofs.Ytecmlikhmkcdpaa.MKinds
set_option linter.unusedVariables false
set_option linter.unusedSimpArgs false
theorem good_parts {o : List UInt8} {d a b m : Int} (h : goodI o d a b m = true) : reg d = true ∧ ((shape o).1 = true → reg a = true) ∧ (¬ (shape o).1 = true → a = 0) ∧ ((shape o).2.1 = true → reg b = true) ∧ (¬ (shape o).2.1 = true → b = 0) := by
  unfold goodI at h
  simp only [Bool.and_eq_true, Bool.or_eq_true, beq_iff_eq] at h
  obtain ⟨_, _, hd, ha, hb⟩ := h
  exact ⟨hd, fun u => ha.elim (fun h => h.2) (fun e => by rw [e]; rfl), fun u => ha.elim (fun h => absurd h.1 u) id, fun u => hb.elim (fun h => h.2) (fun e => by rw [e]; rfl), fun u => hb.elim (fun h => absurd h.1 u) id⟩
theorem codeOk_len {xs : List IInstr} (h : codeOk xs = true) : xs.length ≤ 40 := by
  unfold codeOk at h
  simp only [Bool.and_eq_true, decide_eq_true_eq] at h
  exact h.1
theorem codeOk_good {xs : List IInstr} (h : codeOk xs = true) (i : Nat) (hi : i < xs.length) : goodI xs[i].f0.toList xs[i].f1 xs[i].f2 xs[i].f3 xs[i].f4 = true := by
  unfold codeOk at h
  simp only [Bool.and_eq_true, List.all_eq_true] at h
  exact h.2 _ (List.getElem_mem hi)
/-- An instruction with other registers. -/
def renI (u : List Int) (x : IInstr) : IInstr := ⟨x.f0, rd u x.f1, if (shape x.f0.toList).1 = true then rd u x.f2 else 0, if (shape x.f0.toList).2.1 = true then rd u x.f3 else 0, x.f4⟩
theorem spec_loop (k : Nat) (xs : List IInstr) (u : List Int) (hc : codeOk xs = true) (hu : u.length = 6) (hk : xs.length + 20 < k) : spec_RenameCode.l0 k u [] xs (xs.length : Int) 0 = some (xs.map (renI u), true) := by
  have hl := codeOk_len hc
  obtain ⟨r, hr, hq⟩ := some_loop (fun k (s : List IInstr) i => spec_RenameCode.l0 k u s xs (xs.length : Int) i) xs.length (by omega) 10 (fun i s => s = (xs.take i).map (renI u)) (fun r => r = (xs.map (renI u), true))
    (fun k i s hk hi hI => by
      have hg := good_parts (codeOk_good hc i hi)
      have hs : s.length < 2932031007402 := by rw [hI, List.length_map, List.length_take]; omega
      refine .inr ⟨s ++ [renI u xs[i]], ?_, ?_⟩
      · have hd := reg_iff.1 hg.1
        simp only [spec_RenameCode.l0]
        rw [if_pos (by omega), if_pos (by omega), if_pos (by omega), rdI xs i hi, cdShape_f k (by omega), Option.bind_some]
        dsimp only
        rw [if_pos hd.1, if_pos (by omega)]
        by_cases ha : (shape xs[i].f0.toList).1 = true
        · have h2 := reg_iff.1 (hg.2.1 ha)
          rw [if_pos ha, if_pos h2.1, if_pos (by omega)]
          by_cases hb : (shape xs[i].f0.toList).2.1 = true
          · have h3 := reg_iff.1 (hg.2.2.2.1 hb)
            rw [if_pos hb, if_pos h3.1, if_pos (by omega), if_pos hs]
            unfold renI
            rw [if_pos ha, if_pos hb]
          · rw [if_neg hb, if_pos hs]
            unfold renI
            rw [if_pos ha, if_neg hb]
        · rw [if_neg ha]
          by_cases hb : (shape xs[i].f0.toList).2.1 = true
          · have h3 := reg_iff.1 (hg.2.2.2.1 hb)
            rw [if_pos hb, if_pos h3.1, if_pos (by omega), if_pos hs]
            unfold renI
            rw [if_neg ha, if_pos hb]
          · rw [if_neg hb, if_pos hs]
            unfold renI
            rw [if_neg ha, if_neg hb]
      · rw [hI, List.take_succ_eq_append_getElem hi, List.map_append]
        rfl)
    (fun k s _ hI => ⟨(s, true), by simp only [spec_RenameCode.l0]; rw [if_neg (by omega)], by rw [hI, List.take_of_length_le (Nat.le_refl _)]⟩) xs.length k 0 [] (by omega) (by omega) rfl
  rw [hq] at hr
  exact hr
theorem set_at (s : List IInstr) (i : Nat) (v : IInstr) (h : i < s.length) : rd_T67 (s.set i v) (i : Int) = v := by
  rw [rdI _ i (by simpa using h)]
  simp
theorem impl_loop (k : Nat) (xs : List IInstr) (u : List Int) (hc : codeOk xs = true) (hu : u.length = 6) (hk : xs.length + 20 < k) : impl_RenameCode.l0 k u xs xs (xs.length : Int) 0 = some (xs.map (renI u), true) := by
  have hl := codeOk_len hc
  obtain ⟨r, hr, hq⟩ := some_loop (fun k (s : List IInstr) i => impl_RenameCode.l0 k u s xs (xs.length : Int) i) xs.length (by omega) 15 (fun i s => s.length = xs.length ∧ (∀ j, j < i → s[j]? = (xs.map (renI u))[j]?) ∧ ∀ j, i ≤ j → s[j]? = xs[j]?) (fun r => r = (xs.map (renI u), true))
    (fun k i s hk hi hI => by
      have hg := good_parts (codeOk_good hc i hi)
      obtain ⟨hI1, hI2, hI3⟩ := hI
      have hil : i < s.length := by omega
      have hsi : s[i] = xs[i] := by
        have := hI3 i (Nat.le_refl _)
        rw [List.getElem?_eq_getElem hil, List.getElem?_eq_getElem hi] at this
        exact Option.some.inj this
      refine .inr ⟨s.set i (renI u xs[i]), ?_, by simp [hI1], fun j hj => ?_, fun j hj => ?_⟩
      · have hd := reg_iff.1 hg.1
        obtain ⟨s', e⟩ := formOf_f k (by omega) xs[i].f0
        simp only [impl_RenameCode.l0]
        rw [if_pos (by omega), if_pos (by omega), if_pos (by omega), rdI xs i hi, e, Option.bind_some]
        dsimp only
        rw [if_pos hd.1, if_pos (by omega), if_pos (by omega), rdI s i hil, hsi, Option.bind_some, Int.toNat_natCast]
        simp only [set_at s i _ hil, List.set_set]
        by_cases ha : (shape xs[i].f0.toList).1 = true
        · have h2 := reg_iff.1 (hg.2.1 ha)
          rw [if_pos ha, if_pos h2.1, if_pos (by omega), Option.bind_some]
          simp only [set_at s i _ hil, List.set_set]
          by_cases hb : (shape xs[i].f0.toList).2.1 = true
          · have h3 := reg_iff.1 (hg.2.2.2.1 hb)
            rw [if_pos hb, if_pos h3.1, if_pos (by omega)]
            unfold renI
            rw [if_pos ha, if_pos hb]
          · rw [if_neg hb]
            unfold renI
            rw [if_pos ha, if_neg hb, hg.2.2.2.2 hb]
        · rw [if_neg ha]
          by_cases hb : (shape xs[i].f0.toList).2.1 = true
          · have h3 := reg_iff.1 (hg.2.2.2.1 hb)
            rw [if_pos hb, if_pos h3.1, if_pos (by omega)]
            unfold renI
            rw [if_neg ha, if_pos hb, hg.2.2.1 ha]
          · rw [if_neg hb]
            unfold renI
            rw [if_neg ha, if_neg hb, hg.2.2.1 ha, hg.2.2.2.2 hb]
      · by_cases e : j = i
        · subst e
          rw [List.getElem?_set_self hil]
          simp [hi]
        · rw [List.getElem?_set_ne (fun h => e h.symm)]
          exact hI2 j (by omega)
      · rw [List.getElem?_set_ne (by omega)]
        exact hI3 j (by omega))
    (fun k s _ hI => ⟨(s, true), by simp only [impl_RenameCode.l0]; rw [if_neg (by omega)], by
      have : s = xs.map (renI u) := by
        apply List.ext_getElem?
        intro j
        by_cases hj : j < xs.length
        · exact hI.2.1 j hj
        · rw [List.getElem?_eq_none (by rw [hI.1]; omega), List.getElem?_eq_none (by rw [List.length_map]; omega)]
      rw [this]⟩) xs.length k 0 xs (by omega) (by omega) ⟨rfl, fun j h => by omega, fun j _ => rfl⟩
  rw [hq] at hr
  exact hr
def rename_res (xs : List IInstr) (u : List Int) : List IInstr × Bool := if codeOk xs = true ∧ namesOk u = true then (xs.map (renI u), true) else ([], false)
theorem names_len {u : List Int} (h : namesOk u = true) : u.length = 6 := by
  unfold namesOk at h
  simp only [Bool.and_eq_true, decide_eq_true_eq] at h
  exact h.1
theorem rename_s (k : Nat) (xs : List IInstr) (u : List Int) (hn : xs.length ≤ 1048576) (hu : u.length ≤ 1048576) (hk : xs.length + u.length + 60 < k) : spec_RenameCode.f k xs u = some (rename_res xs u) := by
  unfold spec_RenameCode.f rename_res
  obtain ⟨k, rfl⟩ : ∃ m, k = m + 1 := ⟨k - 1, by omega⟩
  rw [cdCode_f _ xs hn (by omega), Option.bind_some]
  simp only [spec_RenameCode.j0]
  by_cases hc : codeOk xs = true
  · rw [if_pos hc, cdNames_f _ u hu (by omega), Option.bind_some]
    by_cases hb : namesOk u = true
    · rw [hb, if_neg (by decide), if_pos ⟨hc, rfl⟩]
      exact spec_loop k xs u hc (names_len hb) (by omega)
    · rw [Bool.eq_false_iff.2 hb, if_pos (by decide), if_neg (fun h => by cases h.2)]
  · rw [if_neg hc, if_pos trivial, if_neg (fun h => hc h.1)]
theorem clone_u (u : List Int) (hu : u.length ≤ 1048576) : slices_Clone_int_int.f u = some u := by
  unfold slices_Clone_int_int.f
  rw [Option.bind_some, if_pos (by simp; omega), List.nil_append]
theorem pdq_nil (k : Nat) (t : Int) : ((slices_pdqsortOrdered_int.f (k + 1 + 1 + 1) [] 0 0 t).bind fun t => some t) = some [] := by
  have w0 : wrap64 (0 - 0) = 0 := wrap64_small (n := 0 - 0) (by omega) (by omega)
  have w1 : wrap64 (0 + 1) = 1 := wrap64_small (n := 0 + 1) (by omega) (by omega)
  unfold slices_pdqsortOrdered_int.f
  simp only [slices_pdqsortOrdered_int.l0, slices_insertionSortOrdered_int.f, slices_insertionSortOrdered_int.l0]
  rw [w0, w1]
  simp
theorem sort_u (k : Nat) (u : List Int) (hu : u.length ≤ 1048576) : ∃ l, slices_Sort_int_int.f (k + 40) u = some l ∧ (u.length = 6 → l = u.mergeSort fun x y => decide (x ≤ y)) := by
  unfold slices_Sort_int_int.f
  by_cases h : u.length = 0
  · obtain rfl := List.length_eq_zero_iff.1 h
    rw [if_pos (show ([] : List Int).length = 0 from rfl)]
    refine ⟨[], ?_, fun h => by simp at h⟩
    unfold slices_Sort_int_int_small.f bits_Len.f
    have hw : IntKind.u64.wrap ((([] : List Int).length : Nat) : Int) = 0 := rfl
    rw [hw, if_pos (by decide), Option.bind_some]
    have e0 : ((([] : List Int).length : Nat) : Int) = 0 := rfl
    rw [e0]
    exact pdq_nil (k + 37) _
  · rw [if_neg h, if_pos (by omega)]
    exact ⟨_, rfl, fun _ => rfl⟩
theorem rename_i (k : Nat) (xs : List IInstr) (u : List Int) (hn : xs.length ≤ 1048576) (hu : u.length ≤ 1048576) (hk : xs.length + u.length + 60 < k) : impl_RenameCode.f k xs u = some (rename_res xs u) := by
  unfold impl_RenameCode.f rename_res
  obtain ⟨k, rfl⟩ : ∃ m, k = m + 40 := ⟨k - 40, by omega⟩
  obtain ⟨l, hl, hl6⟩ := sort_u k u hu
  rw [clone_u u hu, Option.bind_some, hl, Option.bind_some, isCode_f _ xs hn (by omega), Option.bind_some]
  rw [show k + 40 = (k + 39) + 1 from rfl]
  simp only [impl_RenameCode.j0]
  by_cases hc : codeOk xs = true
  · rw [if_pos hc]
    by_cases h6 : u.length = 6
    · rw [if_pos (by omega), hl6 h6, areWanted_f _ _ (by rw [List.length_mergeSort]; omega) (by rw [List.length_mergeSort]; omega), Option.bind_some, sorted_names]
      have hb6 : namesOk u = ((u.all fun x => decide (0 ≤ x) && decide (x ≤ 5)) && decide u.Nodup) := by
        unfold namesOk
        rw [decide_eq_true h6, Bool.true_and]
      rw [← hb6]
      by_cases hb : namesOk u = true
      · have hcl : impl_Instr_95.f xs = some xs := by
          unfold impl_Instr_95.f
          rw [Option.bind_some, if_pos (by simp; omega), List.nil_append]
        rw [hb, if_neg (by decide), if_pos ⟨hc, rfl⟩, hcl, Option.bind_some]
        exact impl_loop (k + 39) xs u hc h6 (by omega)
      · rw [Bool.eq_false_iff.2 hb, if_pos (by decide), if_neg (fun h => by cases h.2)]
    · rw [if_neg (by omega), if_pos trivial, if_neg (fun h => h6 (names_len h.2))]
  · rw [if_neg hc, if_pos trivial, if_neg (fun h => hc h.1)]
theorem rename_len (xs : List IInstr) (u : List Int) : (rename_res xs u).1.length ≤ xs.length := by
  unfold rename_res
  split
  · simp
  · simp
theorem renameCode_true (xs : List LInstr) (u : List Int) (hn : xs.length ≤ 9223372036854775807) (hs : ∀ x ∈ xs, x.f0.size ≤ 9223372036854775807) : laws_FnExactRenameCode.f (xs.length + u.length + 200) xs u = some true := by
  unfold laws_FnExactRenameCode.f
  by_cases hu : (u.length : Int) > 1048576
  · rw [if_pos hu]
  rw [if_neg hu]
  have hu2 : u.length ≤ 1048576 := by omega
  obtain ⟨r, hr, _, hl⟩ := szInstrS_f (xs.length + u.length + 200) xs 1048576 (by omega) (by omega) hn hs (by omega)
  rw [hr, Option.bind_some]
  by_cases h : r < 0
  · rw [if_pos h]
  rw [if_neg h]
  have hn2 : xs.length ≤ 1048576 := by have := hl (by omega); omega
  have ex : (xs.map convI).length = xs.length := by simp
  have h1 := rename_s (xs.length + u.length + 200) (xs.map convI) u (by omega) hu2 (by omega)
  have h2 := rename_i (xs.length + u.length + 200) (xs.map convI) u (by omega) hu2 (by omega)
  have g2 := rename_i (xs.length + u.length + 198) (xs.map convI) u (by omega) hu2 (by omega)
  have h3 := rename_len (xs.map convI) u
  generalize rename_res (xs.map convI) u = q at h1 h2 g2 h3
  obtain ⟨l', b'⟩ := q
  have h3 : l'.length ≤ xs.length := by rw [ex] at h3; exact h3
  obtain ⟨m', m1', _, _⟩ := markInstrS_f (xs.length + u.length + 199) (xs.map convI) (by omega) (by omega)
  obtain ⟨m2, m2', m3'⟩ := markIntN_g (xs.length + u.length + 199) u (1 + 5 * ((xs.map convI).length : Int)) (by omega) (by omega) hu2 (by omega)
  obtain ⟨ys, y1, y2, y3⟩ := markInstrS_f (xs.length + u.length + 198) l' (by omega) (by omega)
  rw [← y2] at y3
  have j2 : laws_FnExactRenameCode.j2 (xs.length + u.length + 198) ys (1 + 5 * (l'.length : Int)) false = some true := by
    rw [show xs.length + u.length + 198 = (xs.length + u.length + 197) + 1 from rfl]
    simp only [laws_FnExactRenameCode.j2]
    rw [if_neg (by decide), heldInstrS_f _ ys (by omega) (by omega) y3, Option.bind_some, if_neg (by omega), if_pos (by omega)]
  have j1 : laws_FnExactRenameCode.j1 (xs.length + u.length + 199) xs u l' b' l' false = some true := by
    rw [show xs.length + u.length + 199 = (xs.length + u.length + 198) + 1 from rfl]
    simp only [laws_FnExactRenameCode.j1]
    rw [if_neg (by decide), y1, Option.bind_some]
    dsimp only
    rw [heldInstrS_f _ ys (by omega) (by omega) y3, Option.bind_some, if_neg (by omega), if_pos (by omega), toInstrS_f _ xs hn2 (by omega), Option.bind_some, toIntN_f _ u hu2 (by omega), Option.bind_some, g2, Option.bind_some]
    dsimp only
    rw [eqInstrS_f _ l' (by omega) (by omega), Option.bind_some, if_pos rfl, bne_self_eq_false]
    exact j2
  have j0 : laws_FnExactRenameCode.j0 (xs.length + u.length + 200) xs u l' b' (xs.map convI) u l' b' false = some true := by
    rw [show xs.length + u.length + 200 = (xs.length + u.length + 199) + 1 from rfl]
    simp only [laws_FnExactRenameCode.j0]
    rw [if_neg (by decide), toInstrS_f _ xs hn2 (by omega), Option.bind_some, eqInstrS_f _ _ (by omega) (by omega), Option.bind_some, if_pos rfl, toIntN_f _ u hu2 (by omega), Option.bind_some, eqIntN_f _ u hu2 (by omega), Option.bind_some, if_pos rfl, m1', Option.bind_some]
    dsimp only
    rw [m2', Option.bind_some, if_neg (by omega), eqInstrS_f _ l' (by omega) (by omega), Option.bind_some, if_pos rfl, bne_self_eq_false]
    exact j1
  rw [toInstrS_f _ xs hn2 (by omega), toIntN_f _ u hu2 (by omega)]
  simp only [Option.bind_some, h1, h2]
  rw [eqInstrS_f _ l' (by omega) (by omega), Option.bind_some, if_pos rfl, bne_self_eq_false]
  exact j0
theorem len_ok {n : Nat} (h : n ≤ maxLen) : n ≤ 9223372036854775807 := by unfold maxLen at h; exact h
theorem instrs_ok {xs : List LInstr} (h : ∀ x ∈ xs, instrSOk x) : ∀ x ∈ xs, x.f0.size ≤ 9223372036854775807 := fun x hx => len_ok (h x hx).1
theorem renameCode_walk (A : Option Addr) (c : Nat) (xs : List LInstr) (hl : xs.length ≤ c) (W : World) (hr : Kd.C k65 W A xs.length xs) (hm : xs.length ≤ maxLen) (ho : ∀ x ∈ xs, instrSOk x) (B : Option Addr) (d : Nat) (u : List Int) (hl' : u.length ≤ d) (hr' : Kd.C (Kd.int .i64) W B u.length u) (hm' : u.length ≤ maxLen) (ho' : ∀ x ∈ u, (Lit.int .i64 x).wf = true) :
    Calls Try.prog 9 #[.slice A xs.length c, .slice B u.length d] W fun e w' => e = .returned (.bool true) ∧ Below W.heap.size W w' :=
  laws_FnExactRenameCode.calls (xs.length + u.length + 200) A c xs B d u true W hr hl hr' hl' (renameCode_true xs u (len_ok hm) (instrs_ok ho)) rfl
end Go.Proofs.Ytecmlikhmkcdpaa.PureCd
