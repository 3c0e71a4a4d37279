/- JoinCode of the program and of the reference agree for all arguments. -/
import Derived.Test.YtecmlikhmkcdpaaPureMarksI
import Derived.Test.YtecmlikhmkcdpaaMKinds
import Derived.Test.YtecmlikhmkcdpaaFSpecJoinCode
import Derived.Test.YtecmlikhmkcdpaaFSpecJoinCode
import Derived.Test.YtecmlikhmkcdpaaFLawsFnExactJoinCode
namespace Go.Proofs.Ytecmlikhmkcdpaa.PureCd
open Go.RowKit Go.Proofs.Ytecmlikhmkcdpaa.PureOps Go.Proofs.Ytecmlikhmkcdpaa.F Go.Proofs.YtecmlikhmkcdpaaW.PrintWords Go.Proofs.YtecmlikhmkcdpaaW.PrintLast Go.Proofs.YtecmlikhmkcdpaaW.PrintMore Go.Proofs.Ytecmlikhmkcdpaa.MKinds
set_option linter.unusedVariables false
set_option linter.unusedSimpArgs false
def join_res (a b : List IInstr) : List IInstr × Bool :=
  if codeOk a = true then (if codeOk b = true then (if (a.length : Int) + (b.length : Int) > 40 then ([], false) else (a ++ b, true)) else ([], false)) else ([], false)
theorem codeOk_len {xs : List IInstr} (h : codeOk xs = true) : xs.length ≤ 40 := by
  unfold codeOk at h
  simp only [Bool.and_eq_true, decide_eq_true_eq] at h
  exact h.1
theorem join_s (k : Nat) (a b : List IInstr) (ha : a.length ≤ 1048576) (hb : b.length ≤ 1048576) (hk : a.length + b.length + 31 < k) : spec_JoinCode.f k a b = some (join_res a b) := by
  unfold spec_JoinCode.f join_res
  rw [cdCode_f k a ha (by omega), Option.bind_some]
  by_cases hc : codeOk a = true
  · rw [if_pos hc, if_pos hc, cdCode_f k b hb (by omega), Option.bind_some]
    by_cases hd : codeOk b = true
    · rw [if_pos hd, if_pos hd, wrap64_small (n := (a.length : Int) + (b.length : Int)) (by omega) (by omega)]
      by_cases h : (a.length : Int) + (b.length : Int) > 40
      · rw [if_pos h, if_pos h]
      · have c1 : ([] : List IInstr).length + a.length < 2932031007402 := by simp; omega
        have c2 : a.length + b.length < 2932031007402 := by omega
        rw [if_neg h, if_neg h, Option.bind_some, if_pos c1, List.nil_append, Option.bind_some, if_pos c2]
    · rw [if_neg hd, if_neg hd]
  · rw [if_neg hc, if_neg hc]
theorem concat_f (k : Nat) (a b : List IInstr) (ha : a.length ≤ 40) (hb : b.length ≤ 40) (hk : 8 < k) : impl_Instr_61.f k [a, b] = some (a ++ b) := by
  have r0 : rd_L4 [a, b] 0 = a := rfl
  have r1 : rd_L4 [a, b] 1 = b := rfl
  have e2 : (([a, b] : List (List IInstr)).length : Int) = 2 := rfl
  have w1 : wrap64 (0 + 1) = 1 := wrap64_small (n := 0 + 1) (by omega) (by omega)
  have w2 : wrap64 (1 + 1) = 2 := wrap64_small (n := 1 + 1) (by omega) (by omega)
  have s0 : ∀ k, impl_Instr_61.l0 (k + 1) [a, b] 0 [a, b] 2 0 = impl_Instr_61.l0 k [a, b] (a.length : Int) [a, b] 2 1 := fun k => by
    simp only [impl_Instr_61.l0]
    rw [if_pos (by omega), if_pos (by omega), if_pos (by rw [e2]; omega), r0, wrap64_small (n := 0 + (a.length : Int)) (by omega) (by omega), if_neg (by omega), w1, Int.zero_add]
  have s1 : ∀ k, impl_Instr_61.l0 (k + 1) [a, b] (a.length : Int) [a, b] 2 1 = impl_Instr_61.l0 k [a, b] ((a.length : Int) + (b.length : Int)) [a, b] 2 2 := fun k => by
    simp only [impl_Instr_61.l0]
    rw [if_pos (by omega), if_pos (by omega), if_pos (by rw [e2]; omega), r1, wrap64_small (n := (a.length : Int) + (b.length : Int)) (by omega) (by omega), if_neg (by omega), w2]
  have s2 : ∀ k, impl_Instr_61.l0 (k + 1) [a, b] ((a.length : Int) + (b.length : Int)) [a, b] 2 2 = impl_Instr_61.l1 k [] [a, b] 2 0 := fun k => by
    simp only [impl_Instr_61.l0]
    rw [if_neg (by omega)]
    unfold impl_Instr_111.f
    rw [if_pos ⟨rfl, by omega, by omega⟩, Option.bind_some, e2]
  have t0 : ∀ k, impl_Instr_61.l1 (k + 1) [] [a, b] 2 0 = impl_Instr_61.l1 k a [a, b] 2 1 := fun k => by
    simp only [impl_Instr_61.l1]
    rw [if_pos (by omega), if_pos (by omega), if_pos (by rw [e2]; omega), r0, if_pos (by simp; omega), w1, List.nil_append]
  have t1 : ∀ k, impl_Instr_61.l1 (k + 1) a [a, b] 2 1 = impl_Instr_61.l1 k (a ++ b) [a, b] 2 2 := fun k => by
    simp only [impl_Instr_61.l1]
    rw [if_pos (by omega), if_pos (by omega), if_pos (by rw [e2]; omega), r1, if_pos (by omega), w2]
  have t2 : ∀ k, impl_Instr_61.l1 (k + 1) (a ++ b) [a, b] 2 2 = some (a ++ b) := fun k => by
    simp only [impl_Instr_61.l1]
    rw [if_neg (by omega)]
  obtain ⟨m, rfl⟩ : ∃ m, k = m + 1 + 1 + 1 + 1 + 1 + 1 := ⟨k - 6, by omega⟩
  unfold impl_Instr_61.f
  rw [e2, s0, s1, s2, t0, t1, t2]
theorem join_i (k : Nat) (a b : List IInstr) (ha : a.length ≤ 1048576) (hb : b.length ≤ 1048576) (hk : a.length + b.length + 31 < k) : impl_JoinCode.f k a b = some (join_res a b) := by
  unfold impl_JoinCode.f join_res
  rw [isCode_f k a ha (by omega), Option.bind_some]
  by_cases hc : codeOk a = true
  · rw [if_pos hc, if_pos hc, isCode_f k b hb (by omega), Option.bind_some]
    by_cases hd : codeOk b = true
    · rw [if_pos hd, if_pos hd, wrap64_small (n := (a.length : Int) + (b.length : Int)) (by omega) (by omega)]
      by_cases h : (a.length : Int) + (b.length : Int) > 40
      · rw [if_pos h, if_pos h]
      · rw [if_neg h, if_neg h, concat_f k a b (codeOk_len hc) (codeOk_len hd) (by omega), Option.bind_some]
    · rw [if_neg hd, if_neg hd]
  · rw [if_neg hc, if_neg hc]
theorem join_len (a b : List IInstr) : (join_res a b).1.length ≤ 40 := by
  unfold join_res
  split
  · split
    · split
      · simp
      · simp; omega
    · simp
  · simp
theorem markInstrS_g (k : Nat) (xs : List IInstr) (s0 : Int) (h0 : 0 ≤ s0) (h1 : s0 ≤ 100000000) (hn : xs.length ≤ 1048576) (hk : xs.length + 30 < k) : ∃ r, laws_markInstrS.f k xs s0 = some r ∧ 0 ≤ r.1 := by
  unfold laws_markInstrS.f
  exact some_loop (fun k (s : List IInstr × Int) i => laws_markInstrS.l0 k s.1 s.2 i) xs.length (by omega) 25 (fun i s => s.1.length = xs.length ∧ s.2 = s0 + 5 * (i : Int)) (fun r => 0 ≤ r.1)
    (fun k i s hk hi hI => by
      have hI2 : s.2 = s0 + 5 * (i : Int) := hI.2
      have key : ∃ L : List IInstr, laws_markInstrS.l0 (k+1) s.1 s.2 i = laws_markInstrS.l0 k L (s.2+1+1+1+1+1) (wrap64 ((i : Int)+1)) ∧ L.length = xs.length := by
        simp only [laws_markInstrS.l0]
        rw [if_pos (by omega), mt_f s.2 (by omega) k (by omega), Option.bind_some, if_pos (by omega)]
        simp only [Option.bind_some]
        rw [wrap64_small (n := s.2 + 1) (by omega) (by omega), wrap64_small (n := s.2 + 1 + 1) (by omega) (by omega), wrap64_small (n := s.2 + 1 + 1 + 1) (by omega) (by omega), wrap64_small (n := s.2 + 1 + 1 + 1 + 1) (by omega) (by omega), wrap64_small (n := s.2 + 1 + 1 + 1 + 1 + 1) (by omega) (by omega)]
        exact ⟨_, rfl, by simp [hI.1]⟩
      obtain ⟨L, hL, hl⟩ := key
      exact .inr ⟨(L, s.2 + 1 + 1 + 1 + 1 + 1), hL, hl, by show s.2 + 1 + 1 + 1 + 1 + 1 = s0 + 5 * ((i + 1 : Nat) : Int); omega⟩)
    (fun k s _ hI => ⟨(s.2, s.1), by simp only [laws_markInstrS.l0]; rw [if_neg (by omega)], by have := hI.2; show 0 ≤ s.2; omega⟩) xs.length k 0 (xs, s0) (by omega) (by omega) ⟨rfl, by show s0 = s0 + 5 * ((0 : Nat) : Int); omega⟩
theorem joinCode_true (xs ys : List LInstr) (hn : xs.length ≤ 9223372036854775807) (hs : ∀ x ∈ xs, x.f0.size ≤ 9223372036854775807) (hn' : ys.length ≤ 9223372036854775807) (hs' : ∀ x ∈ ys, x.f0.size ≤ 9223372036854775807) : laws_FnExactJoinCode.f (xs.length + ys.length + 300) xs ys = some true := by
  unfold laws_FnExactJoinCode.f
  obtain ⟨r, hr, hr1, hl⟩ := szInstrS_f (xs.length + ys.length + 300) xs 1048576 (by omega) (by omega) hn hs (by omega)
  rw [hr, Option.bind_some]
  by_cases h : r < 0
  · rw [if_pos h]
  rw [if_neg h]
  obtain ⟨q, hq, hq1, hlq⟩ := szInstrS_f (xs.length + ys.length + 300) ys r (by omega) hr1 hn' hs' (by omega)
  rw [hq, Option.bind_some]
  by_cases h' : q < 0
  · rw [if_pos h']
  rw [if_neg h']
  have hx2 : xs.length ≤ 1048576 := by have := hl (by omega); omega
  have hy2 : ys.length ≤ 1048576 := by have := hlq (by omega); omega
  have ex : (xs.map convI).length = xs.length := by simp
  have ey : (ys.map convI).length = ys.length := by simp
  have h1 := join_s (xs.length + ys.length + 300) (xs.map convI) (ys.map convI) (by omega) (by omega) (by omega)
  have h2 := join_i (xs.length + ys.length + 300) (xs.map convI) (ys.map convI) (by omega) (by omega) (by omega)
  have g2 := join_i (xs.length + ys.length + 298) (xs.map convI) (ys.map convI) (by omega) (by omega) (by omega)
  have h3 := join_len (xs.map convI) (ys.map convI)
  generalize join_res (xs.map convI) (ys.map convI) = u at h1 h2 g2 h3
  obtain ⟨l', b'⟩ := u
  have h3 : l'.length ≤ 40 := h3
  obtain ⟨m', m1', _, _⟩ := markInstrS_f (xs.length + ys.length + 299) (xs.map convI) (by omega) (by omega)
  obtain ⟨m2, m2', m3'⟩ := markInstrS_g (xs.length + ys.length + 299) (ys.map convI) (1 + 5 * ((xs.map convI).length : Int)) (by omega) (by omega) (by omega) (by omega)
  obtain ⟨zs, y1, y2, y3⟩ := markInstrS_f (xs.length + ys.length + 298) l' (by omega) (by omega)
  rw [← y2] at y3
  have j2 : laws_FnExactJoinCode.j2 (xs.length + ys.length + 298) zs (1 + 5 * (l'.length : Int)) false = some true := by
    rw [show xs.length + ys.length + 298 = (xs.length + ys.length + 297) + 1 from rfl]
    simp only [laws_FnExactJoinCode.j2]
    rw [if_neg (by decide), heldInstrS_f _ zs (by omega) (by omega) y3, Option.bind_some, if_neg (by omega), if_pos (by omega)]
  have j1 : laws_FnExactJoinCode.j1 (xs.length + ys.length + 299) xs ys l' b' l' false = some true := by
    rw [show xs.length + ys.length + 299 = (xs.length + ys.length + 298) + 1 from rfl]
    simp only [laws_FnExactJoinCode.j1]
    rw [if_neg (by decide), y1, Option.bind_some]
    dsimp only
    rw [heldInstrS_f _ zs (by omega) (by omega) y3, Option.bind_some, if_neg (by omega), if_pos (by omega), toInstrS_f _ xs hx2 (by omega), Option.bind_some, toInstrS_f _ ys hy2 (by omega), Option.bind_some, g2, Option.bind_some]
    dsimp only
    rw [eqInstrS_f _ l' (by omega) (by omega), Option.bind_some, if_pos rfl, bne_self_eq_false]
    exact j2
  have j0 : laws_FnExactJoinCode.j0 (xs.length + ys.length + 300) xs ys l' b' (xs.map convI) (ys.map convI) l' b' false = some true := by
    rw [show xs.length + ys.length + 300 = (xs.length + ys.length + 299) + 1 from rfl]
    simp only [laws_FnExactJoinCode.j0]
    rw [if_neg (by decide), toInstrS_f _ xs hx2 (by omega), Option.bind_some, eqInstrS_f _ _ (by omega) (by omega), Option.bind_some, if_pos rfl, toInstrS_f _ ys hy2 (by omega), Option.bind_some, eqInstrS_f _ _ (by omega) (by omega), Option.bind_some, if_pos rfl, m1', Option.bind_some]
    dsimp only
    rw [m2', Option.bind_some, if_neg (by omega), eqInstrS_f _ l' (by omega) (by omega), Option.bind_some, if_pos rfl, bne_self_eq_false]
    exact j1
  rw [toInstrS_f _ xs hx2 (by omega), toInstrS_f _ ys hy2 (by omega)]
  simp only [Option.bind_some, h1, h2]
  rw [eqInstrS_f _ l' (by omega) (by omega), Option.bind_some, if_pos rfl, bne_self_eq_false]
  exact j0
theorem len_ok {n : Nat} (h : n ≤ maxLen) : n ≤ 9223372036854775807 := by unfold maxLen at h; exact h
theorem instrs_ok {xs : List LInstr} (h : ∀ x ∈ xs, instrSOk x) : ∀ x ∈ xs, x.f0.size ≤ 9223372036854775807 := fun x hx => len_ok (h x hx).1
theorem joinCode_walk (A : Option Addr) (c : Nat) (xs : List LInstr) (hl : xs.length ≤ c) (W : World) (hr : Kd.C k65 W A xs.length xs) (hm : xs.length ≤ maxLen) (ho : ∀ x ∈ xs, instrSOk x) (B : Option Addr) (d : Nat) (ys : List LInstr) (hl' : ys.length ≤ d) (hr' : Kd.C k65 W B ys.length ys) (hm' : ys.length ≤ maxLen) (ho' : ∀ x ∈ ys, instrSOk x) :
    Calls Try.prog 3 #[.slice A xs.length c, .slice B ys.length d] W fun e w' => e = .returned (.bool true) ∧ Below W.heap.size W w' :=
  laws_FnExactJoinCode.calls (xs.length + ys.length + 300) A c xs B d ys true W hr hl hr' hl' (joinCode_true xs ys (len_ok hm) (instrs_ok ho) (len_ok hm') (instrs_ok ho')) rfl
end Go.Proofs.Ytecmlikhmkcdpaa.PureCd
