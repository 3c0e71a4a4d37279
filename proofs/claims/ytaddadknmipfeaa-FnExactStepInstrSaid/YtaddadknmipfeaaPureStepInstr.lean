/- StepInstr of the program and of the reference agree for all arguments. -/
import Derived.Test.YtaddadknmipfeaaPureRunRes
import Derived.Test.YtaddadknmipfeaaFSpecStepInstr
namespace Go.Proofs.Ytaddadknmipfeaa.PureCd
open Go.RowKit Go.Proofs.Ytaddadknmipfeaa.PureOps Go.Proofs.Ytaddadknmipfeaa.F Go.Proofs.YtaddadknmipfeaaW.PrintWords Go.Proofs.YtaddadknmipfeaaW.PrintLast Go.Proofs.YtaddadknmipfeaaW.PrintMore Go.Proofs.Ytaddadknmipfeaa.MKinds
set_option linter.unusedVariables false
set_option linter.unusedSimpArgs false
theorem one_ok (x : IInstr) : codeOk [x] = good1 x := by
  unfold codeOk
  simp
theorem stepInstr_s (k : Nat) (x : IInstr) (u : List Int) (hk : u.length + 95 < k) (hu : u.length ≤ 1048576) : spec_StepInstr.f k x.f0 x.f1 x.f2 x.f3 x.f4 u = some (runCode_res [x] u) := by
  unfold spec_StepInstr.f runCode_res
  have hg := cdGood_f k (by omega) x.f0 x.f1 x.f2 x.f3 x.f4
  rw [hg, cdRegs_f k u hu (by omega), one_ok]
  simp only [Option.bind_some]
  by_cases hc : good1 x = true
  · have hc' : goodI x.f0.toList x.f1 x.f2 x.f3 x.f4 = true := hc
    by_cases hr : regsOk u = true
    · obtain ⟨h1, h2⟩ := regsOk_iff hr
      rw [if_pos (show good1 x = true ∧ regsOk u = true from ⟨hc, hr⟩), if_pos hc', if_pos hr, step_f hc h1 h2, Option.bind_some]
      rfl
    · rw [if_neg (show ¬ (good1 x = true ∧ regsOk u = true) from fun h => hr h.2), if_pos hc', if_neg hr]
  · have hc' : ¬ goodI x.f0.toList x.f1 x.f2 x.f3 x.f4 = true := hc
    rw [if_neg (show ¬ (good1 x = true ∧ regsOk u = true) from fun h => hc h.1), if_neg hc']
theorem stepInstr_i (k : Nat) (x : IInstr) (u : List Int) (hk : u.length + 95 < k) (hu : u.length ≤ 1048576) : impl_StepInstr.f k x.f0 x.f1 x.f2 x.f3 x.f4 u = some (runCode_res [x] u) := by
  unfold impl_StepInstr.f
  rw [runCode_i k [x] u (by simp; omega) (by simp) hu, Option.bind_some]
theorem stepInstr_true (o : ByteArray) (d a b m : Int) (u : List Int) (hs : o.size ≤ 9223372036854775807) : laws_FnExactStepInstr.f (u.length + 200) o d a b m u = some true := by
  unfold laws_FnExactStepInstr.f
  by_cases hu : (u.length : Int) > 1048576
  · rw [if_pos hu]
  rw [if_neg hu, szInstr_f o d a b m 1048576 (by omega) (by omega) hs]
  have hu2 : u.length ≤ 1048576 := by omega
  by_cases h : 1048576 - (o.size : Int) < 0
  · rw [if_pos h, Option.bind_some, if_pos (by decide)]
  · rw [if_neg h, Option.bind_some, if_neg h]
    have h1 : spec_StepInstr.f (u.length + 200) o d a b m u = some (runCode_res [⟨o, d, a, b, m⟩] u) := stepInstr_s (u.length + 200) ⟨o, d, a, b, m⟩ u (by omega) hu2
    have h2 : impl_StepInstr.f (u.length + 200) o d a b m u = some (runCode_res [⟨o, d, a, b, m⟩] u) := stepInstr_i (u.length + 200) ⟨o, d, a, b, m⟩ u (by omega) hu2
    have g2 : impl_StepInstr.f (u.length + 198) o d a b m u = some (runCode_res [⟨o, d, a, b, m⟩] u) := stepInstr_i (u.length + 198) ⟨o, d, a, b, m⟩ u (by omega) hu2
    have h3 := runCode_small [⟨o, d, a, b, m⟩] u
    generalize runCode_res [⟨o, d, a, b, m⟩] u = q at h1 h2 g2 h3
    obtain ⟨l', b'⟩ := q
    have h3 : l'.length ≤ 6 := h3
    obtain ⟨m', m1', m2'⟩ := markIntS_g (u.length + 199) u 1 (by omega) (by omega) hu2 (by omega)
    obtain ⟨ys, y1, y2, y3⟩ := markIntS_f (u.length + 198) l' (by omega) (by omega)
    rw [← y2] at y3
    have j2 : laws_FnExactStepInstr.j2 (u.length + 198) ys (1 + (l'.length : Int)) false = some true := by
      rw [show u.length + 198 = (u.length + 197) + 1 from rfl]
      simp only [laws_FnExactStepInstr.j2]
      rw [if_neg (by decide), heldIntS_f _ ys (by omega) (by omega) y3, Option.bind_some, if_neg (by omega), if_pos (by omega)]
    have j1 : laws_FnExactStepInstr.j1 (u.length + 199) u l' b' l' false o d a b m = some true := by
      rw [show u.length + 199 = (u.length + 198) + 1 from rfl]
      simp only [laws_FnExactStepInstr.j1, laws_toInstr.f]
      rw [if_neg (by decide), y1, Option.bind_some]
      dsimp only
      rw [heldIntS_f _ ys (by omega) (by omega) y3, Option.bind_some, if_neg (by omega), if_pos (by omega), Option.bind_some, toIntS_f _ u hu2 (by omega), Option.bind_some]
      dsimp only
      rw [g2, Option.bind_some]
      dsimp only
      rw [eqIntS_f _ l' (by omega) (by omega), Option.bind_some, if_pos rfl, bne_self_eq_false]
      exact j2
    have j0 : laws_FnExactStepInstr.j0 (u.length + 200) u l' b' u l' b' false o d a b m = some true := by
      rw [show u.length + 200 = (u.length + 199) + 1 from rfl]
      simp only [laws_FnExactStepInstr.j0]
      rw [if_neg (by decide), toIntS_f _ u hu2 (by omega), Option.bind_some, eqIntS_f _ u hu2 (by omega), Option.bind_some, if_pos rfl, m1', Option.bind_some, if_neg (by omega), eqIntS_f _ l' (by omega) (by omega), Option.bind_some, if_pos rfl, bne_self_eq_false]
      exact j1
    rw [toIntS_f _ u hu2 (by omega)]
    simp only [Option.bind_some, laws_toInstr.f, h1, h2]
    rw [eqIntS_f _ l' (by omega) (by omega), Option.bind_some, if_pos rfl, bne_self_eq_false]
    exact j0
theorem stepInstr_walk (x : ByteArray × Int × Int × Int × Int) (hx : instrOk x) (B : Option Addr) (d : Nat) (u : List Int) (hl' : u.length ≤ d) (W : World) (hr' : Kd.C (Kd.int .i64) W B u.length u) (hm' : u.length ≤ maxLen) (ho' : ∀ x ∈ u, (Lit.int .i64 x).wf = true) :
    Calls Try.prog 7 #[.agg #[.string x.1, .int .i64 x.2.1, .int .i64 x.2.2.1, .int .i64 x.2.2.2.1, .int .i64 x.2.2.2.2], .slice B u.length d] W fun e w' => e = .returned (.bool true) ∧ Below W.heap.size W w' :=
  laws_FnExactStepInstr.calls (u.length + 200) x.1 x.2.1 x.2.2.1 x.2.2.2.1 x.2.2.2.2 B d u true W hr' hl' (stepInstr_true _ _ _ _ _ u (len_ok hx.1)) rfl
end Go.Proofs.Ytaddadknmipfeaa.PureCd
