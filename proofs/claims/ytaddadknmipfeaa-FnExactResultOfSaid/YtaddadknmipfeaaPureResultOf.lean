/- ResultOf of the program and of the reference agree for all arguments. -/
import Derived.Test.YtaddadknmipfeaaPureRun0
import Derived.Test.YtaddadknmipfeaaFSpecCdStart
namespace Go.Proofs.Ytaddadknmipfeaa.PureCd
open Go.RowKit Go.Proofs.Ytaddadknmipfeaa.PureOps Go.Proofs.Ytaddadknmipfeaa.F Go.Proofs.YtaddadknmipfeaaW.PrintWords Go.Proofs.YtaddadknmipfeaaW.PrintLast Go.Proofs.YtaddadknmipfeaaW.PrintMore Go.Proofs.Ytaddadknmipfeaa.MKinds
set_option linter.unusedVariables false
set_option linter.unusedSimpArgs false
def startL (x y : Int) : List Int := ((List.replicate 6 0).set (0 : Int).toNat x).set (1 : Int).toNat y
theorem startL_ok {x y : Int} (hx : word x = true) (hy : word y = true) : (startL x y).length = 6 ∧ words (startL x y) := by
  refine ⟨by simp [startL], fun z hz => ?_⟩
  have h : z ∈ [x, y, 0, 0, 0, 0] := hz
  have := word_iff.1 hx
  have := word_iff.1 hy
  simp only [List.mem_cons, List.not_mem_nil, or_false] at h
  omega
theorem cdStart_f (x y : Int) : spec_cdStart.f x y = some (startL x y) := by
  unfold spec_cdStart.f startL
  rw [if_pos (by decide), Option.bind_some, if_pos (by simp), if_pos (by simp)]
theorem result_f (k : Nat) (xs : List IInstr) (hc : codeOk xs = true) (hk : 60 < k) {x y : Int} (hx : word x = true) (hy : word y = true) : impl_result.f k xs x y = some (runL xs (startL x y)) := by
  obtain ⟨h1, h2⟩ := startL_ok hx hy
  have h := (run_f k xs hc hk _ h1 h2).2.1
  unfold impl_result.f
  rw [if_pos (by decide), Option.bind_some, if_pos (by simp), if_pos (by simp)]
  show (impl_run.f k xs (startL x y)).bind _ = _
  rw [h]; rfl
theorem resultOf_same (k : Nat) (xs : List IInstr) (x y r : Int) (hk : xs.length + 90 < k) (hn : xs.length ≤ 1048576) :
    ∃ q, spec_ResultOf.f k xs x y r = some q ∧ impl_ResultOf.f k xs x y r = some q := by
  obtain ⟨k, rfl⟩ : ∃ m, k = m + 1 := ⟨k - 1, by omega⟩
  unfold spec_ResultOf.f impl_ResultOf.f
  rw [cdCode_f (k + 1) xs hn (by omega), isCode_f (k + 1) xs hn (by omega), exWord_f, exWord_f, isWord_f, isWord_f, cdReg_f, isRegister_f]
  simp only [Option.bind_some, spec_ResultOf.j0]
  by_cases hc : codeOk xs = true
  · by_cases hx : word x = true
    · by_cases hy : word y = true
      · by_cases hr : reg r = true
        · obtain ⟨s1, s2⟩ := startL_ok hx hy
          obtain ⟨h1, _, h3, _⟩ := run_f k xs hc (by omega) _ s1 s2
          have h2 := result_f (k + 1) xs hc (by omega) hx hy
          have hr' := reg_iff.1 hr
          refine ⟨(rd (runL xs (startL x y)) r, true), ?_, ?_⟩
          · rw [if_pos hc, if_pos hx, if_pos hy, hr, if_neg (by decide), cdStart_f, Option.bind_some, h1, Option.bind_some, if_pos hr'.1, if_pos (by omega)]
          · rw [if_pos hc, if_pos hx, if_pos hy, if_pos hr, h2, Option.bind_some, if_pos hr'.1, if_pos (by omega)]
        · exact ⟨(0, false), by rw [if_pos hc, if_pos hx, if_pos hy, Bool.eq_false_iff.2 hr, if_pos (by decide)], by rw [if_pos hc, if_pos hx, if_pos hy, if_neg hr]⟩
      · exact ⟨(0, false), by rw [if_pos hc, if_pos hx, if_neg hy, if_pos trivial], by rw [if_pos hc, if_pos hx, if_neg hy]⟩
    · exact ⟨(0, false), by rw [if_pos hc, if_neg hx, if_pos trivial], by rw [if_pos hc, if_neg hx]⟩
  · exact ⟨(0, false), by rw [if_neg hc, if_pos trivial], by rw [if_neg hc]⟩
theorem resultOf_true (xs : List LInstr) (x y q : Int) (hn : xs.length ≤ 9223372036854775807) (hs : ∀ x ∈ xs, x.f0.size ≤ 9223372036854775807) : laws_FnExactResultOf.f (xs.length + 100) xs x y q = some true := by
  unfold laws_FnExactResultOf.f
  obtain ⟨r, hr, _, hl⟩ := szInstrS_f (xs.length + 100) xs 1048576 (by omega) (by omega) hn hs (by omega)
  rw [hr, Option.bind_some]
  by_cases h : r < 0
  · rw [if_pos h]
  · rw [if_neg h]
    have hn2 : xs.length ≤ 1048576 := by have := hl (by omega); omega
    have hn3 : (xs.map convI).length ≤ 1048576 := by simpa using hn2
    have j0 : laws_FnExactResultOf.j0 (xs.length + 100) xs (xs.map convI) false = some true := by
      rw [show xs.length + 100 = (xs.length + 99) + 1 from rfl]
      simp only [laws_FnExactResultOf.j0]
      rw [if_neg (by decide), toInstrS_f (xs.length + 99) xs hn2 (by omega), Option.bind_some, eqInstrS_f (xs.length + 99) (xs.map convI) hn3 (by simp), Option.bind_some, if_pos rfl]
    rw [toInstrS_f (xs.length + 100) xs hn2 (by omega)]
    obtain ⟨q', h1, h2⟩ := resultOf_same (xs.length + 100) (xs.map convI) x y q (by simp) hn3
    simp only [Option.bind_some, h1, h2]
    simpa using j0
theorem resultOf_walk (A : Option Addr) (c : Nat) (xs : List LInstr) (hl : xs.length ≤ c) (W : World) (hr : Kd.C k42 W A xs.length xs) (hm : xs.length ≤ maxLen) (ho : ∀ x ∈ xs, instrSOk x) (x : Int) (_ : (Lit.int .i64 x).wf = true) (y : Int) (_ : (Lit.int .i64 y).wf = true) (q : Int) (_ : (Lit.int .i64 q).wf = true) :
    Calls Try.prog 8 #[.slice A xs.length c, .int .i64 x, .int .i64 y, .int .i64 q] W fun e w' => e = .returned (.bool true) ∧ Below W.heap.size W w' :=
  laws_FnExactResultOf.calls (xs.length + 100) A c xs x y q true W hr hl (resultOf_true xs x y q (len_ok hm) (instrs_ok ho)) rfl
end Go.Proofs.Ytaddadknmipfeaa.PureCd
