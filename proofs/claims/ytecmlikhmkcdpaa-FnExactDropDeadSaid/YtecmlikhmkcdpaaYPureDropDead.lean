/- DropDead of the program and of the reference agree for all arguments. -/
import Derived.Test.YtecmlikhmkcdpaaYPureBef
import Derived.Test.YtecmlikhmkcdpaaYPureMarksI
import Derived.Test.YtecmlikhmkcdpaaYMKinds
import Derived.Test.YtecmlikhmkcdpaaGLawsHeldInstrS
import Derived.Test.YtecmlikhmkcdpaaGImplDropDead
import Derived.Test.YtecmlikhmkcdpaaGLawsMarkText
import Derived.Test.YtecmlikhmkcdpaaGLawsHeldInstrS
import Derived.Test.YtecmlikhmkcdpaaGImplDropDead
namespace Go.Proofs.Ytecmlikhmkcdpaa.PureOps
open Go.RowKit Go.Proofs.Ytecmlikhmkcdpaa.G Go.Proofs.YtecmlikhmkcdpaaW.PrintWords Go.Proofs.YtecmlikhmkcdpaaW.PrintLast Go.Proofs.YtecmlikhmkcdpaaW.PrintMore Go.Proofs.Ytecmlikhmkcdpaa.MKinds
set_option linter.unusedVariables false
set_option linter.unusedSimpArgs false
theorem hasN_f (k : Nat) (xs : List Int) (v : Int) (hn : xs.length ≤ 1048576) (hk : xs.length < k) : spec_l1Has.f k xs v = some (xs.contains v) := by
  unfold spec_l1Has.f
  obtain ⟨r, hr, hq⟩ := some_loop (fun k (_ : Unit) i => spec_l1Has.l0 k v xs (xs.length : Int) i) xs.length (by omega) 0 (fun i _ => ∀ j (hj : j < xs.length), j < i → xs[j] ≠ v) (fun r => r = xs.contains v)
    (fun k i s _ hi hI => by
      by_cases hc : xs[i] = v
      · refine .inl ⟨true, ?_, ?_⟩
        · simp only [spec_l1Has.l0]
          rw [if_pos (by omega), if_pos (by omega), if_pos (by omega), rdN xs i hi, if_pos hc]
        · symm; rw [List.contains_iff_mem, ← hc]; exact List.getElem_mem hi
      · refine .inr ⟨(), ?_, fun j hj hji => ?_⟩
        · simp only [spec_l1Has.l0]
          rw [if_pos (by omega), if_pos (by omega), if_pos (by omega), rdN xs i hi, if_neg hc]
        · by_cases e : j = i
          · subst e; exact hc
          · exact hI j hj (by omega))
    (fun k s _ hI => ⟨false, by simp only [spec_l1Has.l0]; rw [if_neg (by omega)], by
      symm
      rw [Bool.eq_false_iff]
      intro h
      obtain ⟨j, hj, e⟩ := List.mem_iff_getElem.1 (List.contains_iff_mem.1 h)
      exact hI j hj hj e⟩) xs.length k 0 () (by omega) (by omega) (fun j _ h => by omega)
  rw [← hq]; exact hr
theorem containsInt_f (k : Nat) (xs : List Int) (v : Int) (hn : xs.length ≤ 1048576) (hk : xs.length < k) : slices_Contains_int_int.f k xs v = some (xs.contains v) := by
  unfold slices_Contains_int_int.f slices_Index_int_int.f
  obtain ⟨r, hr, hq⟩ := some_loop (fun k (_ : Unit) i => slices_Index_int_int.l0 k xs v (xs.length : Int) i) xs.length (by omega) 0 (fun i _ => ∀ j (hj : j < xs.length), j < i → xs[j] ≠ v) (fun r => decide (r ≥ 0) = xs.contains v)
    (fun k i s _ hi hI => by
      by_cases hc : v = xs[i]
      · refine .inl ⟨i, ?_, ?_⟩
        · simp only [slices_Index_int_int.l0]
          rw [if_pos (by omega), if_pos (by omega), if_pos (by omega), rdN xs i hi, if_pos hc]
        · rw [decide_eq_true (by omega)]; symm; rw [List.contains_iff_mem, hc]; exact List.getElem_mem hi
      · refine .inr ⟨(), ?_, fun j hj hji => ?_⟩
        · simp only [slices_Index_int_int.l0]
          rw [if_pos (by omega), if_pos (by omega), if_pos (by omega), rdN xs i hi, if_neg hc]
        · by_cases e : j = i
          · subst e; exact fun h => hc h.symm
          · exact hI j hj (by omega))
    (fun k s _ hI => ⟨-1, by simp only [slices_Index_int_int.l0]; rw [if_neg (by omega)], by
      have : xs.contains v = false := by
        rw [Bool.eq_false_iff]
        intro h
        rw [List.contains_iff_mem] at h
        obtain ⟨j, hj, e⟩ := List.mem_iff_getElem.1 h
        exact hI j hj hj e
      rw [this]; decide⟩) xs.length k 0 () (by omega) (by omega) (fun j _ h => by omega)
  have hr' : slices_Index_int_int.l0 k xs v (xs.length : Int) 0 = some r := hr
  rw [hr', Option.bind_some, hq]
theorem markIntN_g (k : Nat) (xs : List Int) (s0 : Int) (hs : 0 ≤ s0) (hs' : s0 ≤ 1000000000000) (hn : xs.length ≤ 1048576) (hk : xs.length < k) : ∃ r, laws_markIntS.f k xs s0 = some r ∧ 0 ≤ r.1 := by
  unfold laws_markIntS.f
  exact some_loop (fun k (s : List Int × Int) i => laws_markIntS.l0 k s.1 s.2 i) xs.length (by omega) 0 (fun i s => s.1.length = xs.length ∧ s.2 = s0 + (i : Int)) (fun r => 0 ≤ r.1)
    (fun k i s _ hi hI => .inr ⟨(s.1.set i s.2, s.2 + 1), by
      simp only [laws_markIntS.l0]
      rw [if_pos (by omega), if_pos (by omega), Int.toNat_natCast, wrap64_small (n := s.2 + 1) (by omega) (by omega)], by simp [hI.1], by show s.2 + 1 = s0 + ((i + 1 : Nat) : Int); omega⟩)
    (fun k s _ hI => ⟨(s.2, s.1), by simp only [laws_markIntS.l0]; rw [if_neg (by omega)], by have := hI.2; show 0 ≤ s.2; omega⟩) xs.length k 0 (xs, s0) (by omega) (by omega) ⟨rfl, by simp⟩
theorem has_both (xs : List IInstr) (i : Nat) (hi : i < xs.length) (L : List Int) (hL : Want L) : impl_DropDead.hand_has xs i L = some (L.contains xs[i].f1) := by
  unfold impl_DropDead.hand_has
  rw [rdI xs i hi]
  have := want_len hL
  exact containsInt_f 1000 L _ (by omega) (by omega)
theorem dd_ok (xs : List IInstr) (hc : codeOk xs = true) (out : List Int) (hw : Want out) : impl_DropDead.hand_ok xs out :=
  ⟨sets_ok xs hc out hw, fun i hi L hL => ⟨_, has_both xs i hi L hL⟩⟩
theorem dd_want (xs : List IInstr) (hc : codeOk xs = true) (out : List Int) (hw : Want out) : ∀ m, m ≤ xs.length → Want (impl_DropDead.hand_st xs out m).2 ∧ (impl_DropDead.hand_st xs out m).1.length ≤ m := by
  intro m
  induction m with
  | zero => exact fun _ => ⟨hw, Nat.le_refl _⟩
  | succ m ih =>
    intro hm
    obtain ⟨h1, h2⟩ := ih (by omega)
    unfold impl_DropDead.hand_st
    split
    · obtain ⟨r, e1, _, e3⟩ := bef_both xs hc 31 (by omega) (xs.length - 1 - m) (by omega) _ h1
      refine ⟨?_, by simp; omega⟩
      dsimp only
      rw [e1]
      exact e3
    · exact ⟨h1, by omega⟩
theorem dd_loop (xs : List IInstr) (hc : codeOk xs = true) (out : List Int) (hw : Want out) (d : Nat) : ∀ (k m : Nat), m + d = xs.length → d + 40 < k → spec_DropDead.l0 k xs (impl_DropDead.hand_st xs out m).1.reverse (impl_DropDead.hand_st xs out m).2 ((xs.length : Int) - 1 - (m : Int)) = some ((impl_DropDead.hand_st xs out xs.length).1.reverse, true) := by
  have hl := codeOk_len hc
  induction d with
  | zero =>
    intro k m h hk
    obtain ⟨k, rfl⟩ : ∃ q, k = q + 1 := ⟨k - 1, by omega⟩
    simp only [spec_DropDead.l0]
    rw [if_neg (by omega), show m = xs.length by omega]
  | succ d ih =>
    intro k m h hk
    obtain ⟨k, rfl⟩ : ∃ q, k = q + 1 := ⟨k - 1, by omega⟩
    have hi : xs.length - 1 - m < xs.length := by omega
    have ei : (xs.length : Int) - 1 - (m : Int) = ((xs.length - 1 - m : Nat) : Int) := by omega
    obtain ⟨hwm, hlm⟩ := dd_want xs hc out hw m (by omega)
    have hwl := want_len hwm
    have hb := has_both xs (xs.length - 1 - m) hi _ hwm
    obtain ⟨r, h1, h2, h3⟩ := bef_both xs hc k (by omega) (xs.length - 1 - m) hi _ hwm
    have ih := ih k (m + 1) (by omega) (by omega)
    have ew : wrap64 (((xs.length - 1 - m : Nat) : Int) - 1) = (xs.length : Int) - 1 - ((m + 1 : Nat) : Int) := by rw [wrap64_small (by omega) (by omega)]; omega
    simp only [spec_DropDead.l0]
    rw [ei, if_pos (by omega), if_pos (by omega), if_pos (by omega), ew, rdI xs _ hi, hasN_f k _ _ (by omega) (by omega), Option.bind_some]
    rw [impl_DropDead.hand_st, hb, rdI xs _ hi, h1] at ih
    by_cases hcn : (impl_DropDead.hand_st xs out m).2.contains xs[xs.length - 1 - m].f1 = true
    · rw [if_pos (by rw [hcn])] at ih
      rw [if_pos hcn, Option.bind_some, if_pos (by simp; omega), h2, Option.bind_some]
      rw [List.reverse_append] at ih
      exact ih
    · rw [if_neg (by simpa using hcn)] at ih
      rw [if_neg hcn]
      exact ih
noncomputable def dd_res (xs : List IInstr) (u : List Int) : List IInstr × Bool := if codeOk xs = true then (if wantedL u = true then ((impl_DropDead.hand_st xs u xs.length).1.reverse, true) else ([], false)) else ([], false)
theorem dd_len (xs : List IInstr) (u : List Int) : (dd_res xs u).1.length ≤ xs.length := by
  unfold dd_res
  by_cases hc : codeOk xs = true
  · rw [if_pos hc]
    by_cases hb : wantedL u = true
    · rw [if_pos hb]
      have := (dd_want xs hc u ((wantedL_iff u).1 hb) xs.length (Nat.le_refl _)).2
      simpa using this
    · rw [if_neg hb]
      simp
  · rw [if_neg hc]
    simp
theorem dd_s (k : Nat) (xs : List IInstr) (u : List Int) (hn : xs.length ≤ 1048576) (hu : u.length ≤ 1048576) (hk : xs.length + u.length + 160 < k) : spec_DropDead.f k xs u = some (dd_res xs u) := by
  unfold spec_DropDead.f dd_res
  obtain ⟨k, rfl⟩ : ∃ m, k = m + 1 := ⟨k - 1, by omega⟩
  rw [cdCode_f _ xs hn (by omega), Option.bind_some]
  by_cases hc : codeOk xs = true
  · rw [if_pos hc, if_pos hc, cdWanted_f _ u hu (by omega), Option.bind_some]
    simp only [spec_DropDead.j0]
    by_cases hb : wantedL u = true
    · have hw := (wantedL_iff u).1 hb
      have hl := codeOk_len hc
      have hwl := want_len hw
      rw [if_neg (by rw [hb]; decide), if_pos hb]
      unfold spec_l1Own.f
      rw [Option.bind_some, if_pos (by simp; omega), List.nil_append, Option.bind_some]
      have := dd_loop xs hc u hw xs.length k 0 (by omega) (by omega)
      rw [show wrap64 ((xs.length : Int) - 1) = (xs.length : Int) - 1 - ((0 : Nat) : Int) by rw [wrap64_small (by omega) (by omega)]; omega]
      exact this
    · rw [if_pos (by simpa using hb), if_neg hb]
  · rw [if_neg hc, if_neg hc]
    simp only [spec_DropDead.j0]
    rw [if_pos trivial]
theorem dd_i (k : Nat) (xs : List IInstr) (u : List Int) (hn : xs.length ≤ 1048576) (hu : u.length ≤ 1048576) (hk : xs.length + u.length + 160 < k) : impl_DropDead.f k xs u = some (dd_res xs u) := by
  unfold impl_DropDead.f dd_res
  rw [isCode_f _ xs hn (by omega), Option.bind_some]
  by_cases hc : codeOk xs = true
  · rw [if_pos hc, if_pos hc, areWanted_f _ u hu (by omega), Option.bind_some]
    by_cases hb : wantedL u = true
    · rw [if_pos hb, if_pos hb, if_pos (dd_ok xs hc u ((wantedL_iff u).1 hb))]
    · rw [if_neg hb, if_neg hb]
  · rw [if_neg hc, if_neg hc]
theorem dropDead_true (xs : List LInstr) (u : List Int) (hn : xs.length ≤ 9223372036854775807) (hs : ∀ x ∈ xs, x.f0.size ≤ 9223372036854775807) : laws_FnExactDropDead.f (xs.length + u.length + 300) xs u = some true := by
  unfold laws_FnExactDropDead.f
  by_cases hu : (u.length : Int) > 1048576
  · rw [if_pos hu]
  rw [if_neg hu]
  have hu2 : u.length ≤ 1048576 := by omega
  obtain ⟨r, hr, _, hl⟩ := szInstrS_f (xs.length + u.length + 300) xs 1048576 (by omega) (by omega) hn hs (by omega)
  rw [hr, Option.bind_some]
  by_cases h : r < 0
  · rw [if_pos h]
  rw [if_neg h]
  have hn2 : xs.length ≤ 1048576 := by have := hl (by omega); omega
  have ex : (xs.map convI).length = xs.length := by simp
  have h1 := dd_s (xs.length + u.length + 300) (xs.map convI) u (by omega) hu2 (by omega)
  have h2 := dd_i (xs.length + u.length + 300) (xs.map convI) u (by omega) hu2 (by omega)
  have g2 := dd_i (xs.length + u.length + 298) (xs.map convI) u (by omega) hu2 (by omega)
  have h3 := dd_len (xs.map convI) u
  generalize dd_res (xs.map convI) u = q at h1 h2 g2 h3
  obtain ⟨l', b'⟩ := q
  have h3 : l'.length ≤ xs.length := by rw [ex] at h3; exact h3
  obtain ⟨m', m1', _, _⟩ := markInstrS_f (xs.length + u.length + 299) (xs.map convI) (by omega) (by omega)
  obtain ⟨m2, m2', m3'⟩ := markIntN_g (xs.length + u.length + 299) u (1 + 5 * ((xs.map convI).length : Int)) (by omega) (by omega) hu2 (by omega)
  obtain ⟨ys, y1, y2, y3⟩ := markInstrS_f (xs.length + u.length + 298) l' (by omega) (by omega)
  rw [← y2] at y3
  have j2 : laws_FnExactDropDead.j2 (xs.length + u.length + 298) ys (1 + 5 * (l'.length : Int)) false = some true := by
    rw [show xs.length + u.length + 298 = (xs.length + u.length + 297) + 1 from rfl]
    simp only [laws_FnExactDropDead.j2]
    rw [if_neg (by decide), heldInstrS_f _ ys (by omega) (by omega) y3, Option.bind_some, if_neg (by omega), if_pos (by omega)]
  have j1 : laws_FnExactDropDead.j1 (xs.length + u.length + 299) xs u l' b' l' false = some true := by
    rw [show xs.length + u.length + 299 = (xs.length + u.length + 298) + 1 from rfl]
    simp only [laws_FnExactDropDead.j1]
    rw [if_neg (by decide), y1, Option.bind_some]
    dsimp only
    rw [heldInstrS_f _ ys (by omega) (by omega) y3, Option.bind_some, if_neg (by omega), if_pos (by omega), toInstrS_f _ xs hn2 (by omega), Option.bind_some, toIntN_f _ u hu2 (by omega), Option.bind_some, g2, Option.bind_some]
    dsimp only
    rw [eqInstrS_f _ l' (by omega) (by omega), Option.bind_some, if_pos rfl, bne_self_eq_false]
    exact j2
  have j0 : laws_FnExactDropDead.j0 (xs.length + u.length + 300) xs u l' b' (xs.map convI) u l' b' false = some true := by
    rw [show xs.length + u.length + 300 = (xs.length + u.length + 299) + 1 from rfl]
    simp only [laws_FnExactDropDead.j0]
    rw [if_neg (by decide), toInstrS_f _ xs hn2 (by omega), Option.bind_some, eqInstrS_f _ _ (by omega) (by omega), Option.bind_some, if_pos rfl, toIntN_f _ u hu2 (by omega), Option.bind_some, eqIntN_f _ u hu2 (by omega), Option.bind_some, if_pos rfl, m1', Option.bind_some]
    dsimp only
    rw [m2', Option.bind_some, if_neg (by omega), eqInstrS_f _ l' (by omega) (by omega), Option.bind_some, if_pos rfl, bne_self_eq_false]
    exact j1
  rw [toInstrS_f _ xs hn2 (by omega), toIntN_f _ u hu2 (by omega)]
  simp only [Option.bind_some, h1, h2]
  rw [eqInstrS_f _ l' (by omega) (by omega), Option.bind_some, if_pos rfl, bne_self_eq_false]
  exact j0
theorem len_ok {n : Nat} (h : n ≤ maxLen) : n ≤ 9223372036854775807 := by unfold maxLen at h; exact h
theorem instrs_ok {xs : List LInstr} (h : ∀ x ∈ xs, instrSOk x) : ∀ x ∈ xs, x.f0.size ≤ 9223372036854775807 := fun x hx => len_ok (h x hx).1
theorem dropDead_walk (A : Option Addr) (c : Nat) (xs : List LInstr) (hl : xs.length ≤ c) (W : World) (hr : Kd.C k65 W A xs.length xs) (hm : xs.length ≤ maxLen) (ho : ∀ x ∈ xs, instrSOk x) (B : Option Addr) (d : Nat) (u : List Int) (hl' : u.length ≤ d) (hr' : Kd.C (Kd.int .i64) W B u.length u) (hm' : u.length ≤ maxLen) (ho' : ∀ x ∈ u, (Lit.int .i64 x).wf = true) :
    Calls Try.prog 13 #[.slice A xs.length c, .slice B u.length d] W fun e w' => e = .returned (.bool true) ∧ Below W.heap.size W w' :=
  laws_FnExactDropDead.calls (xs.length + u.length + 300) A c xs B d u true W hr hl hr' hl' (dropDead_true xs u (len_ok hm) (instrs_ok ho)) rfl
end Go.Proofs.Ytecmlikhmkcdpaa.PureOps
