/- LiveSets of the program and of the reference agree for all arguments; what comes back lies in memory of its own. -/
import Derived.Test.YtecmlikhmkcdpaaYPureLiveSets
import Derived.Test.YtecmlikhmkcdpaaYPureMarksJ
import Derived.Test.YtecmlikhmkcdpaaYPureRows
import Derived.Test.YtecmlikhmkcdpaaGWalkLS
import Derived.Test.YtecmlikhmkcdpaaYMKinds
namespace Go.Proofs.Ytecmlikhmkcdpaa.PureOps
open Go.RowKit Go.Proofs.Ytecmlikhmkcdpaa.G Go.Proofs.YtecmlikhmkcdpaaW.PrintWords Go.Proofs.YtecmlikhmkcdpaaW.PrintLast Go.Proofs.YtecmlikhmkcdpaaW.PrintMore Go.Proofs.Ytecmlikhmkcdpaa.MKinds
set_option linter.unusedVariables false
set_option linter.unusedSimpArgs false
theorem markIntN_g (k : Nat) (xs : List Int) (s0 : Int) (hs : 0 ≤ s0) (hs' : s0 ≤ 1000000000000) (hn : xs.length ≤ 1048576) (hk : xs.length < k) : ∃ r, laws_markIntS.f k xs s0 = some r ∧ 0 ≤ r.1 := by
  unfold laws_markIntS.f
  exact some_loop (fun k (s : List Int × Int) i => laws_markIntS.l0 k s.1 s.2 i) xs.length (by omega) 0 (fun i s => s.1.length = xs.length ∧ s.2 = s0 + (i : Int)) (fun r => 0 ≤ r.1)
    (fun k i s _ hi hI => .inr ⟨(s.1.set i s.2, s.2 + 1), by
      simp only [laws_markIntS.l0]
      rw [if_pos (by omega), if_pos (by omega), Int.toNat_natCast, wrap64_small (n := s.2 + 1) (by omega) (by omega)], by simp [hI.1], by show s.2 + 1 = s0 + ((i + 1 : Nat) : Int); omega⟩)
    (fun k s _ hI => ⟨(s.2, s.1), by simp only [laws_markIntS.l0]; rw [if_neg (by omega)], by have := hI.2; show 0 ≤ s.2; omega⟩) xs.length k 0 (xs, s0) (by omega) (by omega) ⟨rfl, by simp⟩
def ls_res (xs : List IInstr) (u : List Int) : List (List Int) × Bool := if codeOk xs = true then (if wantedL u = true then (setsL xs u xs.length, true) else ([], false)) else ([], false)
theorem ls_small (xs : List IInstr) (u : List Int) : smallL (ls_res xs u).1 := by
  unfold ls_res
  by_cases hc : codeOk xs = true
  · rw [if_pos hc]
    have hl := codeOk_len hc
    by_cases hb : wantedL u = true
    · rw [if_pos hb]
      refine ⟨by simp [setsL]; omega, fun i => ?_⟩
      unfold rowOf setsL
      rw [List.getD_eq_getElem?_getD, List.getElem?_map]
      by_cases hi : i < xs.length + 1
      · rw [List.getElem?_range hi]
        have := want_len (at_want xs hc u ((wantedL_iff u).1 hb) (xs.length - i) (by omega))
        show (impl_liveSets.hand_at xs u (xs.length - i)).length ≤ 1000
        omega
      · rw [List.getElem?_eq_none (by simp; omega)]
        simp
    · rw [if_neg hb]
      exact ⟨by simp, fun i => by simp [rowOf]⟩
  · rw [if_neg hc]
    exact ⟨by simp, fun i => by simp [rowOf]⟩
theorem ls_s (k : Nat) (xs : List IInstr) (u : List Int) (hn : xs.length ≤ 1048576) (hu : u.length ≤ 1048576) (hk : xs.length + u.length + 160 < k) : spec_LiveSets.f k xs u = some (ls_res xs u) := by
  unfold spec_LiveSets.f ls_res
  rw [cdCode_f _ xs hn (by omega), Option.bind_some]
  by_cases hc : codeOk xs = true
  · rw [if_pos hc, if_pos hc, cdWanted_f _ u hu (by omega), Option.bind_some]
    by_cases hb : wantedL u = true
    · have hw := (wantedL_iff u).1 hb
      rw [if_pos hb, if_pos hb, spec_sets k xs hc u hw (by omega), Option.bind_some]
    · rw [if_neg hb, if_neg hb]
  · rw [if_neg hc, if_neg hc]
theorem ls_i (k : Nat) (xs : List IInstr) (u : List Int) (hn : xs.length ≤ 1048576) (hu : u.length ≤ 1048576) (hk : xs.length + u.length + 160 < k) : impl_LiveSets.f k xs u = some (ls_res xs u) := by
  unfold impl_LiveSets.f ls_res
  rw [isCode_f _ xs hn (by omega), Option.bind_some]
  by_cases hc : codeOk xs = true
  · rw [if_pos hc, if_pos hc, areWanted_f _ u hu (by omega), Option.bind_some]
    by_cases hb : wantedL u = true
    · have hw := (wantedL_iff u).1 hb
      rw [if_pos hb, if_pos hb, impl_sets k xs hc u hw, Option.bind_some]
    · rw [if_neg hb, if_neg hb]
  · rw [if_neg hc, if_neg hc]
theorem len_ok {n : Nat} (h : n ≤ maxLen) : n ≤ 9223372036854775807 := by unfold maxLen at h; exact h
theorem instrs_ok {xs : List LInstr} (h : ∀ x ∈ xs, instrSOk x) : ∀ x ∈ xs, x.f0.size ≤ 9223372036854775807 := fun x hx => len_ok (h x hx).1
theorem liveSets_walk (A : Option Addr) (c : Nat) (xs : List LInstr) (hl : xs.length ≤ c) (W : World) (hr : Kd.C k65 W A xs.length xs) (hm : xs.length ≤ maxLen) (ho : ∀ x ∈ xs, instrSOk x) (B : Option Addr) (d : Nat) (u : List Int) (hl' : u.length ≤ d) (hr' : Kd.C (Kd.int .i64) W B u.length u) (hm' : u.length ≤ maxLen) (ho' : ∀ x ∈ u, (Lit.int .i64 x).wf = true) :
    Calls Try.prog 12 #[.slice A xs.length c, .slice B u.length d] W fun e w' => e = .returned (.bool true) ∧ Below W.heap.size W w' := by
  have hn := len_ok hm
  have hs := instrs_ok ho
  by_cases hu : 1048576 < u.length
  · exact laws_FnExactLiveSets.hand_long A c xs B d u W hr hl hr' hl' hu
  have hu2 : u.length ≤ 1048576 := by omega
  have hk : ∃ k, k = xs.length + u.length + 3000 := ⟨_, rfl⟩
  obtain ⟨k, hk⟩ := hk
  obtain ⟨r, hsz, _, hlr⟩ := szInstrS_f k xs 1048576 (by omega) (by omega) hn hs (by omega)
  by_cases h : r < 0
  · exact laws_FnExactLiveSets.hand_neg k A c xs B d u W hr hl hr' hl' hu2 r hsz h
  have hn2 : xs.length ≤ 1048576 := by have := hlr (by omega); omega
  have ex : (xs.map convI).length = xs.length := by simp
  obtain ⟨m', m1', _, _⟩ := markInstrS_f k (xs.map convI) (by omega) (by omega)
  obtain ⟨m2, m2', m3'⟩ := markIntN_g k u (1 + 5 * ((xs.map convI).length : Int)) (by omega) (by omega) hu2 (by omega)
  obtain ⟨m2a, m2b⟩ := m2
  have hsm := ls_small (xs.map convI) u
  exact laws_FnExactLiveSets.hand k A c xs B d u W hr hl hr' hl' (xs.map convI) m' u m2b (ls_res (xs.map convI) u).1 (markedL (ls_res (xs.map convI) u).1) (ls_res (xs.map convI) u).2 r _ m2a (offs (ls_res (xs.map convI) u).1) hu2 hsz (by omega)
    (toInstrS_f k xs hn2 (by omega)) (toIntN_f k u hu2 (by omega)) (ls_s k _ u (by omega) hu2 (by omega)) (ls_i k _ u (by omega) hu2 (by omega)) (eqRows_g k _ hsm (by omega)) (eqInstrS_f k _ (by omega) (by omega)) (eqIntN_f k u hu2 (by omega))
    m1' m2' m3' rfl (markedL_len _) (marks_g k _ hsm (by omega)) (held_g k _ hsm (by omega)) (by have := offs_small _ hsm (ls_res (xs.map convI) u).1.length; omega)
end Go.Proofs.Ytecmlikhmkcdpaa.PureOps
