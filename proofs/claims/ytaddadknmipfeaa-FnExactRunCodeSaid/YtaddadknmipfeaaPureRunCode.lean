/- RunCode of the program and of the reference agree for all arguments. -/
import Derived.Test.YtaddadknmipfeaaPureRunRes
import Derived.Test.YtaddadknmipfeaaFSpecRunCode
import Derived.Test.YtaddadknmipfeaaFLawsMarkInstrS
namespace Go.Proofs.Ytaddadknmipfeaa.PureCd
open Go.RowKit Go.Proofs.Ytaddadknmipfeaa.PureOps Go.Proofs.Ytaddadknmipfeaa.F Go.Proofs.YtaddadknmipfeaaW.PrintWords Go.Proofs.YtaddadknmipfeaaW.PrintLast Go.Proofs.YtaddadknmipfeaaW.PrintMore Go.Proofs.Ytaddadknmipfeaa.MKinds
set_option linter.unusedVariables false
set_option linter.unusedSimpArgs false
theorem markInstrS_f (k : Nat) (xs : List IInstr) (hn : xs.length ≤ 1048576) (hk : xs.length + 30 < k) : ∃ r, laws_markInstrS.f k xs 1 = some r ∧ 0 ≤ r.1 ∧ r.1 ≤ 1000000000 := by
  unfold laws_markInstrS.f
  exact some_loop (fun k (s : List IInstr × Int) i => laws_markInstrS.l0 k s.1 s.2 i) xs.length (by omega) 25 (fun i s => s.1.length = xs.length ∧ s.2 = 1 + 5 * (i : Int)) (fun r => 0 ≤ r.1 ∧ r.1 ≤ 1000000000)
    (fun k i s hk hi hI => by
      obtain ⟨t, ht⟩ := markText_f k (by omega) s.2 (by omega)
      have key : ∃ L : List IInstr, laws_markInstrS.l0 (k+1) s.1 s.2 i = laws_markInstrS.l0 k L (s.2+1+1+1+1+1) (wrap64 ((i : Int)+1)) ∧ L.length = xs.length := by
        simp only [laws_markInstrS.l0]
        rw [if_pos (by omega), ht, Option.bind_some, if_pos (by omega)]
        simp only [Option.bind_some]
        rw [wrap64_small (n := s.2 + 1) (by omega) (by omega), wrap64_small (n := s.2 + 1 + 1) (by omega) (by omega), wrap64_small (n := s.2 + 1 + 1 + 1) (by omega) (by omega), wrap64_small (n := s.2 + 1 + 1 + 1 + 1) (by omega) (by omega), wrap64_small (n := s.2 + 1 + 1 + 1 + 1 + 1) (by omega) (by omega)]
        exact ⟨_, rfl, by simp [hI.1]⟩
      obtain ⟨L, hL, hl⟩ := key
      exact .inr ⟨(L, s.2 + 1 + 1 + 1 + 1 + 1), hL, hl, by show s.2 + 1 + 1 + 1 + 1 + 1 = 1 + 5 * ((i + 1 : Nat) : Int); omega⟩)
    (fun k s _ hI => ⟨(s.2, s.1), by simp only [laws_markInstrS.l0]; rw [if_neg (by omega)], by have := hI.2; show 0 ≤ s.2; omega, by have := hI.2; show s.2 ≤ 1000000000; omega⟩) xs.length k 0 (xs, 1) (by omega) (by omega) ⟨rfl, rfl⟩
theorem runCode_s (k : Nat) (xs : List IInstr) (u : List Int) (hk : xs.length + u.length + 90 < k) (hn : xs.length ≤ 1048576) (hu : u.length ≤ 1048576) : spec_RunCode.f k xs u = some (runCode_res xs u) := by
  unfold spec_RunCode.f runCode_res
  rw [cdCode_f k xs hn (by omega), cdRegs_f k u hu (by omega)]
  simp only [Option.bind_some]
  by_cases hc : codeOk xs = true
  · by_cases hr : regsOk u = true
    · obtain ⟨h1, h2⟩ := regsOk_iff hr
      rw [if_pos (show codeOk xs = true ∧ regsOk u = true from ⟨hc, hr⟩), if_pos hc, if_pos hr, (run_f k xs hc (by omega) u h1 h2).1, Option.bind_some]
    · rw [if_neg (show ¬ (codeOk xs = true ∧ regsOk u = true) from fun h => hr h.2), if_pos hc, if_neg hr]
  · rw [if_neg (show ¬ (codeOk xs = true ∧ regsOk u = true) from fun h => hc h.1), if_neg hc]
theorem runCode_true (xs : List LInstr) (u : List Int) (hn : xs.length ≤ 9223372036854775807) (hs : ∀ x ∈ xs, x.f0.size ≤ 9223372036854775807) : laws_FnExactRunCode.f (xs.length + u.length + 200) xs u = some true := by
  unfold laws_FnExactRunCode.f
  by_cases hu : (u.length : Int) > 1048576
  · rw [if_pos hu]
  rw [if_neg hu]
  have hu2 : u.length ≤ 1048576 := by omega
  obtain ⟨r, hr, _, hl⟩ := szInstrS_f (xs.length + u.length + 200) xs 1048576 (by omega) (by omega) hn hs (by omega)
  rw [hr, Option.bind_some]
  by_cases h : r < 0
  · rw [if_pos h]
  · rw [if_neg h]
    have hn2 : xs.length ≤ 1048576 := by have := hl (by omega); omega
    have hn3 : (xs.map convI).length ≤ 1048576 := by simpa using hn2
    have hm : (xs.map convI).length = xs.length := List.length_map ..
    have h1 := runCode_s (xs.length + u.length + 200) (xs.map convI) u (by omega) hn3 hu2
    have h2 := runCode_i (xs.length + u.length + 200) (xs.map convI) u (by omega) hn3 hu2
    have g2 := runCode_i (xs.length + u.length + 198) (xs.map convI) u (by omega) hn3 hu2
    have h3 := runCode_small (xs.map convI) u
    generalize runCode_res (xs.map convI) u = q at h1 h2 g2 h3
    obtain ⟨l', b'⟩ := q
    have h3 : l'.length ≤ 6 := h3
    obtain ⟨m, m1, m2, m3⟩ := markInstrS_f (xs.length + u.length + 199) (xs.map convI) hn3 (by omega)
    obtain ⟨m', m1', m2'⟩ := markIntS_g (xs.length + u.length + 199) u m.1 m2 (by omega) hu2 (by omega)
    obtain ⟨ys, y1, y2, y3⟩ := markIntS_f (xs.length + u.length + 198) l' (by omega) (by omega)
    rw [← y2] at y3
    have j2 : laws_FnExactRunCode.j2 (xs.length + u.length + 198) ys (1 + (l'.length : Int)) false = some true := by
      rw [show xs.length + u.length + 198 = (xs.length + u.length + 197) + 1 from rfl]
      simp only [laws_FnExactRunCode.j2]
      rw [if_neg (by decide), heldIntS_f _ ys (by omega) (by omega) y3, Option.bind_some, if_neg (by omega), if_pos (by omega)]
    have j1 : laws_FnExactRunCode.j1 (xs.length + u.length + 199) xs u l' b' l' false = some true := by
      rw [show xs.length + u.length + 199 = (xs.length + u.length + 198) + 1 from rfl]
      simp only [laws_FnExactRunCode.j1]
      rw [if_neg (by decide), y1, Option.bind_some]
      dsimp only
      rw [heldIntS_f _ ys (by omega) (by omega) y3, Option.bind_some, if_neg (by omega), if_pos (by omega), toInstrS_f _ xs hn2 (by omega), Option.bind_some, toIntS_f _ u hu2 (by omega), Option.bind_some, g2, Option.bind_some]
      dsimp only
      rw [eqIntS_f _ l' (by omega) (by omega), Option.bind_some, if_pos rfl, bne_self_eq_false]
      exact j2
    have j0 : laws_FnExactRunCode.j0 (xs.length + u.length + 200) xs u l' b' (xs.map convI) u l' b' false = some true := by
      rw [show xs.length + u.length + 200 = (xs.length + u.length + 199) + 1 from rfl]
      simp only [laws_FnExactRunCode.j0]
      rw [if_neg (by decide), toInstrS_f _ xs hn2 (by omega), Option.bind_some, eqInstrS_f _ (xs.map convI) hn3 (by omega), Option.bind_some, if_pos rfl, toIntS_f _ u hu2 (by omega), Option.bind_some, eqIntS_f _ u hu2 (by omega), Option.bind_some, if_pos rfl, m1, Option.bind_some, m1', Option.bind_some, if_neg (by omega), eqIntS_f _ l' (by omega) (by omega), Option.bind_some, if_pos rfl, bne_self_eq_false]
      exact j1
    rw [toInstrS_f (xs.length + u.length + 200) xs hn2 (by omega), toIntS_f _ u hu2 (by omega)]
    simp only [Option.bind_some, h1, h2]
    rw [eqIntS_f _ l' (by omega) (by omega), Option.bind_some, if_pos rfl, bne_self_eq_false]
    exact j0
theorem runCode_walk (A : Option Addr) (c : Nat) (xs : List LInstr) (hl : xs.length ≤ c) (W : World) (hr : Kd.C k42 W A xs.length xs) (hm : xs.length ≤ maxLen) (ho : ∀ x ∈ xs, instrSOk x) (B : Option Addr) (d : Nat) (u : List Int) (hl' : u.length ≤ d) (hr' : Kd.C (Kd.int .i64) W B u.length u) (hm' : u.length ≤ maxLen) (ho' : ∀ x ∈ u, (Lit.int .i64 x).wf = true) :
    Calls Try.prog 9 #[.slice A xs.length c, .slice B u.length d] W fun e w' => e = .returned (.bool true) ∧ Below W.heap.size W w' :=
  laws_FnExactRunCode.calls (xs.length + u.length + 200) A c xs B d u true W hr hl hr' hl' (runCode_true xs u (len_ok hm) (instrs_ok ho)) rfl
end Go.Proofs.Ytaddadknmipfeaa.PureCd
