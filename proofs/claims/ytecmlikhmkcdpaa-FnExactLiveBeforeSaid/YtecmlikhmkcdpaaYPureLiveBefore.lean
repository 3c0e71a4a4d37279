/- LiveBefore of the program and of the reference agree for all arguments. -/
import Derived.Test.YtecmlikhmkcdpaaYPureLiveSets
import Derived.Test.YtecmlikhmkcdpaaYPureMarksJ
import Derived.Test.YtecmlikhmkcdpaaYMKinds
import Derived.Test.YtecmlikhmkcdpaaGLawsHeldIntS
import Derived.Test.YtecmlikhmkcdpaaGLawsHeldIntS
import Derived.Test.YtecmlikhmkcdpaaGLawsMarkText
import Derived.Test.YtecmlikhmkcdpaaGLawsHeldIntS
import Derived.Test.YtecmlikhmkcdpaaGLawsHeldIntS
namespace Go.Proofs.Ytecmlikhmkcdpaa.PureOps
open Go.RowKit Go.Proofs.Ytecmlikhmkcdpaa.G Go.Proofs.YtecmlikhmkcdpaaW.PrintWords Go.Proofs.YtecmlikhmkcdpaaW.PrintLast Go.Proofs.YtecmlikhmkcdpaaW.PrintMore Go.Proofs.Ytecmlikhmkcdpaa.MKinds
set_option linter.unusedVariables false
set_option linter.unusedSimpArgs false
theorem markIntS_f (k : Nat) (xs : List Int) (hn : xs.length ≤ 1048576) (hk : xs.length < k) : ∃ ys, laws_markIntS.f k xs 1 = some (1 + (xs.length : Int), ys) ∧ ys.length = xs.length ∧ ∀ j, j < xs.length → ys[j]? = some (1 + (j : Int)) := by
  unfold laws_markIntS.f
  obtain ⟨r, hr, h1, h2, h3⟩ := some_loop (fun k (s : List Int × Int) i => laws_markIntS.l0 k s.1 s.2 i) xs.length (by omega) 0 (fun i s => s.1.length = xs.length ∧ s.2 = 1 + (i : Int) ∧ ∀ j, j < i → s.1[j]? = some (1 + (j : Int))) (fun r => r.1 = 1 + (xs.length : Int) ∧ r.2.length = xs.length ∧ ∀ j, j < xs.length → r.2[j]? = some (1 + (j : Int)))
    (fun k i s _ hi hI => .inr ⟨(s.1.set i s.2, s.2 + 1), by
      simp only [laws_markIntS.l0]
      rw [if_pos (by omega), if_pos (by omega), Int.toNat_natCast, wrap64_small (n := s.2 + 1) (by omega) (by omega)], by simp [hI.1], by omega, fun j hj => by
      by_cases e : j = i
      · subst e
        show (s.1.set j s.2)[j]? = _
        rw [List.getElem?_set_self (by omega), hI.2.1]
      · show (s.1.set i s.2)[j]? = _
        rw [List.getElem?_set_ne (fun h => e h.symm)]
        exact hI.2.2 j (by omega)⟩)
    (fun k s _ hI => ⟨(s.2, s.1), by simp only [laws_markIntS.l0]; rw [if_neg (by omega)], hI.2.1, hI.1, hI.2.2⟩) xs.length k 0 (xs, 1) (by omega) (by omega) ⟨rfl, rfl, fun j hj => by omega⟩
  exact ⟨r.2, by rw [← h1]; exact hr, h2, h3⟩
theorem heldIntS_f (k : Nat) (ys : List Int) (hn : ys.length ≤ 1048576) (hk : ys.length < k) (hy : ∀ j, j < ys.length → ys[j]? = some (1 + (j : Int))) : laws_heldIntS.f k ys 1 = some (1 + (ys.length : Int)) := by
  unfold laws_heldIntS.f
  obtain ⟨r, hr, hq⟩ := some_loop (fun k (s : Int) i => laws_heldIntS.l0 k ys s i) ys.length (by omega) 0 (fun i s => s = 1 + (i : Int)) (fun r => r = 1 + (ys.length : Int))
    (fun k i s _ hi hI => .inr ⟨s + 1, by
      have h := hy i hi
      rw [List.getElem?_eq_getElem hi] at h
      simp only [laws_heldIntS.l0]
      rw [if_pos (by omega), if_pos (by omega), rdN ys i hi, if_pos (by rw [Option.some.inj h, hI]), wrap64_small (n := s + 1) (by omega) (by omega)], by omega⟩)
    (fun k s _ hI => ⟨s, by simp only [laws_heldIntS.l0]; rw [if_neg (by omega)], hI⟩) ys.length k 0 1 (by omega) (by omega) rfl
  rw [← hq]; exact hr
theorem markIntN_g (k : Nat) (xs : List Int) (s0 : Int) (hs : 0 ≤ s0) (hs' : s0 ≤ 1000000000000) (hn : xs.length ≤ 1048576) (hk : xs.length < k) : ∃ r, laws_markIntS.f k xs s0 = some r ∧ 0 ≤ r.1 := by
  unfold laws_markIntS.f
  exact some_loop (fun k (s : List Int × Int) i => laws_markIntS.l0 k s.1 s.2 i) xs.length (by omega) 0 (fun i s => s.1.length = xs.length ∧ s.2 = s0 + (i : Int)) (fun r => 0 ≤ r.1)
    (fun k i s _ hi hI => .inr ⟨(s.1.set i s.2, s.2 + 1), by
      simp only [laws_markIntS.l0]
      rw [if_pos (by omega), if_pos (by omega), Int.toNat_natCast, wrap64_small (n := s.2 + 1) (by omega) (by omega)], by simp [hI.1], by show s.2 + 1 = s0 + ((i + 1 : Nat) : Int); omega⟩)
    (fun k s _ hI => ⟨(s.2, s.1), by simp only [laws_markIntS.l0]; rw [if_neg (by omega)], by have := hI.2; show 0 ≤ s.2; omega⟩) xs.length k 0 (xs, s0) (by omega) (by omega) ⟨rfl, by simp⟩
def lb_res (xs : List IInstr) (u : List Int) : List Int × Bool := if codeOk xs = true then (if wantedL u = true then (impl_liveSets.hand_at xs u xs.length, true) else ([], false)) else ([], false)
theorem lb_len (xs : List IInstr) (u : List Int) : (lb_res xs u).1.length ≤ 6 := by
  unfold lb_res
  by_cases hc : codeOk xs = true
  · rw [if_pos hc]
    by_cases hb : wantedL u = true
    · rw [if_pos hb]
      exact want_len (at_want xs hc u ((wantedL_iff u).1 hb) xs.length (Nat.le_refl _))
    · rw [if_neg hb]
      simp
  · rw [if_neg hc]
    simp
theorem lb_s (k : Nat) (xs : List IInstr) (u : List Int) (hn : xs.length ≤ 1048576) (hu : u.length ≤ 1048576) (hk : xs.length + u.length + 160 < k) : spec_LiveBefore.f k xs u = some (lb_res xs u) := by
  unfold spec_LiveBefore.f lb_res
  rw [cdCode_f _ xs hn (by omega), Option.bind_some]
  by_cases hc : codeOk xs = true
  · rw [if_pos hc, if_pos hc, cdWanted_f _ u hu (by omega), Option.bind_some]
    by_cases hb : wantedL u = true
    · have hw := (wantedL_iff u).1 hb
      obtain ⟨l, hl⟩ := setsL_head xs u xs.length
      rw [if_pos hb, if_pos hb, spec_sets k xs hc u hw (by omega), Option.bind_some, hl, rdSets, if_pos (by simp <;> omega)]
    · rw [if_neg hb, if_neg hb]
  · rw [if_neg hc, if_neg hc]
theorem lb_i (k : Nat) (xs : List IInstr) (u : List Int) (hn : xs.length ≤ 1048576) (hu : u.length ≤ 1048576) (hk : xs.length + u.length + 160 < k) : impl_LiveBefore.f k xs u = some (lb_res xs u) := by
  unfold impl_LiveBefore.f lb_res
  rw [isCode_f _ xs hn (by omega), Option.bind_some]
  by_cases hc : codeOk xs = true
  · rw [if_pos hc, if_pos hc, areWanted_f _ u hu (by omega), Option.bind_some]
    by_cases hb : wantedL u = true
    · have hw := (wantedL_iff u).1 hb
      rw [if_pos hb, if_pos hb]
      unfold impl_liveSets_first.f
      rw [if_pos (sets_ok xs hc u hw), Option.bind_some]
    · rw [if_neg hb, if_neg hb]
  · rw [if_neg hc, if_neg hc]
theorem liveBefore_true (xs : List LInstr) (u : List Int) (hn : xs.length ≤ 9223372036854775807) (hs : ∀ x ∈ xs, x.f0.size ≤ 9223372036854775807) : laws_FnExactLiveBefore.f (xs.length + u.length + 300) xs u = some true := by
  unfold laws_FnExactLiveBefore.f
  by_cases hu : (u.length : Int) > 1048576
  · rw [if_pos hu]
  rw [if_neg hu]
  have hu2 : u.length ≤ 1048576 := by omega
  obtain ⟨r, hr, _, hl⟩ := szInstrS_f (xs.length + u.length + 300) xs 1048576 (by omega) (by omega) hn hs (by omega)
  rw [hr, Option.bind_some]
  by_cases h : r < 0
  · rw [if_pos h]
  rw [if_neg h]
  have hn2 : xs.length ≤ 1048576 := by have := hl (by omega); omega
  have ex : (xs.map convI).length = xs.length := by simp
  have h1 := lb_s (xs.length + u.length + 300) (xs.map convI) u (by omega) hu2 (by omega)
  have h2 := lb_i (xs.length + u.length + 300) (xs.map convI) u (by omega) hu2 (by omega)
  have g2 := lb_i (xs.length + u.length + 298) (xs.map convI) u (by omega) hu2 (by omega)
  have h3 := lb_len (xs.map convI) u
  generalize lb_res (xs.map convI) u = q at h1 h2 g2 h3
  obtain ⟨l', b'⟩ := q
  have h3 : l'.length ≤ 6 := by exact h3
  obtain ⟨m', m1', _, _⟩ := markInstrS_f (xs.length + u.length + 299) (xs.map convI) (by omega) (by omega)
  obtain ⟨m2, m2', m3'⟩ := markIntN_g (xs.length + u.length + 299) u (1 + 5 * ((xs.map convI).length : Int)) (by omega) (by omega) hu2 (by omega)
  obtain ⟨ys, y1, y2, y3⟩ := markIntS_f (xs.length + u.length + 298) l' (by omega) (by omega)
  rw [← y2] at y3
  have j2 : laws_FnExactLiveBefore.j2 (xs.length + u.length + 298) ys (1 + (l'.length : Int)) false = some true := by
    rw [show xs.length + u.length + 298 = (xs.length + u.length + 297) + 1 from rfl]
    simp only [laws_FnExactLiveBefore.j2]
    rw [if_neg (by decide), heldIntS_f _ ys (by omega) (by omega) y3, Option.bind_some, if_neg (by omega), if_pos (by omega)]
  have j1 : laws_FnExactLiveBefore.j1 (xs.length + u.length + 299) xs u l' b' l' false = some true := by
    rw [show xs.length + u.length + 299 = (xs.length + u.length + 298) + 1 from rfl]
    simp only [laws_FnExactLiveBefore.j1]
    rw [if_neg (by decide), y1, Option.bind_some]
    dsimp only
    rw [heldIntS_f _ ys (by omega) (by omega) y3, Option.bind_some, if_neg (by omega), if_pos (by omega), toInstrS_f _ xs hn2 (by omega), Option.bind_some, toIntN_f _ u hu2 (by omega), Option.bind_some, g2, Option.bind_some]
    dsimp only
    rw [eqIntN_f _ l' (by omega) (by omega), Option.bind_some, if_pos rfl, bne_self_eq_false]
    exact j2
  have j0 : laws_FnExactLiveBefore.j0 (xs.length + u.length + 300) xs u l' b' (xs.map convI) u l' b' false = some true := by
    rw [show xs.length + u.length + 300 = (xs.length + u.length + 299) + 1 from rfl]
    simp only [laws_FnExactLiveBefore.j0]
    rw [if_neg (by decide), toInstrS_f _ xs hn2 (by omega), Option.bind_some, eqInstrS_f _ _ (by omega) (by omega), Option.bind_some, if_pos rfl, toIntN_f _ u hu2 (by omega), Option.bind_some, eqIntN_f _ u hu2 (by omega), Option.bind_some, if_pos rfl, m1', Option.bind_some]
    dsimp only
    rw [m2', Option.bind_some, if_neg (by omega), eqIntN_f _ l' (by omega) (by omega), Option.bind_some, if_pos rfl, bne_self_eq_false]
    exact j1
  rw [toInstrS_f _ xs hn2 (by omega), toIntN_f _ u hu2 (by omega)]
  simp only [Option.bind_some, h1, h2]
  rw [eqIntN_f _ l' (by omega) (by omega), Option.bind_some, if_pos rfl, bne_self_eq_false]
  exact j0
theorem len_ok {n : Nat} (h : n ≤ maxLen) : n ≤ 9223372036854775807 := by unfold maxLen at h; exact h
theorem instrs_ok {xs : List LInstr} (h : ∀ x ∈ xs, instrSOk x) : ∀ x ∈ xs, x.f0.size ≤ 9223372036854775807 := fun x hx => len_ok (h x hx).1
theorem liveBefore_walk (A : Option Addr) (c : Nat) (xs : List LInstr) (hl : xs.length ≤ c) (W : World) (hr : Kd.C k65 W A xs.length xs) (hm : xs.length ≤ maxLen) (ho : ∀ x ∈ xs, instrSOk x) (B : Option Addr) (d : Nat) (u : List Int) (hl' : u.length ≤ d) (hr' : Kd.C (Kd.int .i64) W B u.length u) (hm' : u.length ≤ maxLen) (ho' : ∀ x ∈ u, (Lit.int .i64 x).wf = true) :
    Calls Try.prog 11 #[.slice A xs.length c, .slice B u.length d] W fun e w' => e = .returned (.bool true) ∧ Below W.heap.size W w' :=
  laws_FnExactLiveBefore.calls (xs.length + u.length + 300) A c xs B d u true W hr hl hr' hl' (liveBefore_true xs u (len_ok hm) (instrs_ok ho)) rfl
end Go.Proofs.Ytecmlikhmkcdpaa.PureOps
