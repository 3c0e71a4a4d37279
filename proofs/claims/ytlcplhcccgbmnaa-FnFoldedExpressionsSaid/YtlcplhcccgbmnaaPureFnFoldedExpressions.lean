/- Folding keeps all values and leaves no op whose operands are constants; folding twice changes nothing. Plain. -/
import Derived.Test.YtlcplhcccgbmnaaUFold2
import Derived.Test.YtlcplhcccgbmnaaUDraw
import Derived.Test.YtlcplhcccgbmnaaDLawsFnFoldedExpressions
namespace Go.Proofs.Ytlcplhcccgbmnaa.PureOps
open Go.RowKit Go.Proofs.Ytlcplhcccgbmnaa.D Go.Proofs.YtlcplhcccgbmnaaW.PrintWords Go.Proofs.YtlcplhcccgbmnaaW.PrintLast Go.Proofs.YtlcplhcccgbmnaaW.PrintMore
set_option linter.unusedVariables false
set_option linter.unusedSimpArgs false
theorem same_loop (u : List Int) (hn : u.length ≤ 10000) (d : Nat) : ∀ k j : Nat, j + d = u.length → d < k → laws_pSame.l0 k u u (u.length : Int) (j : Int) = some true := by
  induction d with
  | zero =>
    intro k j h hk
    obtain ⟨k, rfl⟩ : ∃ m, k = m + 1 := ⟨k - 1, by omega⟩
    simp only [laws_pSame.l0]
    rw [if_neg (by omega)]
  | succ d ih =>
    intro k j h hk
    obtain ⟨k, rfl⟩ : ∃ m, k = m + 1 := ⟨k - 1, by omega⟩
    have hj : j < u.length := by omega
    simp only [laws_pSame.l0]
    rw [if_pos (by omega), if_pos (by omega), if_pos (by omega), if_pos (by omega), if_true, wrapS hj (by omega)]
    exact ih k (j + 1) (by omega) (by omega)
theorem pSame_f (k : Nat) (u : List Int) (hn : u.length ≤ 10000) (hk : u.length < k) : laws_pSame.f k u u = some true := by
  unfold laws_pSame.f
  rw [if_pos rfl]
  exact same_loop u hn u.length k 0 (by omega) hk
theorem sameE_loop (u : List INode) (hn : u.length ≤ 10000) (d : Nat) : ∀ k j : Nat, j + d = u.length → d < k → laws_pSameExpr.l0 k u u (u.length : Int) (j : Int) = some true := by
  induction d with
  | zero =>
    intro k j h hk
    obtain ⟨k, rfl⟩ : ∃ m, k = m + 1 := ⟨k - 1, by omega⟩
    simp only [laws_pSameExpr.l0]
    rw [if_neg (by omega)]
  | succ d ih =>
    intro k j h hk
    obtain ⟨k, rfl⟩ : ∃ m, k = m + 1 := ⟨k - 1, by omega⟩
    have hj : j < u.length := by omega
    simp only [laws_pSameExpr.l0]
    rw [if_pos (by omega), if_pos (by omega), if_pos (by omega), if_pos (by omega), wrapS hj (by omega), if_neg (by simp)]
    exact ih k (j + 1) (by omega) (by omega)
theorem pSameE_f (k : Nat) (u : List INode) (hn : u.length ≤ 10000) (hk : u.length < k) : laws_pSameExpr.f k u u = some true := by
  unfold laws_pSameExpr.f
  rw [if_pos rfl]
  exact sameE_loop u hn u.length k 0 (by omega) hk
theorem drawFold_loop {cd : List Int} (h : by8 cd) (n : Nat) (hn : n ≤ 26) (d : Nat) : ∀ (k i : Nat) (e : List INode) (a s : Int), e.length = n → i + d = n → d < k → 0 ≤ a → a + 10 * d ≤ 600000000 → ∃ e', spec_DrawFoldExpr.l0 k e (n : Int) (i : Int) cd a s = some e' ∧ e'.length = n := by
  induction d with
  | zero =>
    intro k i e a s he hi hk h0 h1
    obtain ⟨k, rfl⟩ : ∃ m, k = m + 1 := ⟨k - 1, by omega⟩
    exact ⟨e, by simp only [spec_DrawFoldExpr.l0]; rw [if_neg (by omega)], he⟩
  | succ d ih =>
    intro k i e a s he hi hk h0 h1
    obtain ⟨k, rfl⟩ : ∃ m, k = m + 1 := ⟨k - 1, by omega⟩
    simp only [spec_DrawFoldExpr.l0]
    rw [if_pos (by omega), if_pos (by omega), if_pos (by omega), wrapS (n := n) (by omega) (by omega)]
    by_cases hin : (rd_T47 e (i : Int)).f0.toList = ([105, 110] : List UInt8)
    · rw [if_pos hin]
      obtain ⟨x, a1, s1, f, f1, f2⟩ := one_ok h a s 2 h0 (by omega) (by omega)
      rw [f, Option.bind_some]
      dsimp only
      cases x with
      | true =>
        rw [if_pos rfl]
        obtain ⟨y, a2, s2, g, g1, g2⟩ := word_ok h a1 s1 (by omega) (by omega)
        rw [g, Option.bind_some]
        exact ih k (i + 1) _ a2 s2 (by rw [List.length_set]; exact he) (by omega) (by omega) (by omega) (by omega)
      | false =>
        rw [if_neg (by decide)]
        exact ih k (i + 1) e a1 s1 he (by omega) (by omega) (by omega) (by omega)
    · rw [if_neg hin]
      exact ih k (i + 1) e a s he (by omega) (by omega) h0 (by omega)
theorem drawFold_ok {cd : List Int} (h : by8 cd) (k : Nat) (hk : 100 < k) : ∃ e, spec_DrawFoldExpr.f k cd = some e ∧ e.length ≤ 26 := by
  obtain ⟨e, a1, s1, q, q1, q2, q3⟩ := anyExpr_ok h 4 (by omega) k (by omega) 0 0 (by omega) (by omega)
  have q0 : spec_l1Cur_anyExpr.f k cd 0 0 4 = some (e, a1, s1) := q
  obtain ⟨e', g, g1⟩ := drawFold_loop h e.length (by omega) e.length k 0 e a1 s1 rfl (by omega) (by omega) (by omega) (by omega)
  unfold spec_DrawFoldExpr.f spec_newstate.f
  rw [Option.bind_some]
  dsimp only
  rw [q0, Option.bind_some]
  exact ⟨e', g, by omega⟩
theorem drawCount_ok {cd : List Int} (h : by8 cd) (k : Nat) (hk : 100 < k) : ∃ e, spec_DrawCountOps.f k cd = some e ∧ e.length ≤ 26 := by
  obtain ⟨e, a1, s1, q, q1, q2, q3⟩ := anyExpr_ok h 4 (by omega) k (by omega) 0 0 (by omega) (by omega)
  have q0 : spec_l1Cur_anyExpr.f k cd 0 0 4 = some (e, a1, s1) := q
  unfold spec_DrawCountOps.f spec_DrawIsExpr.f spec_newstate.f
  rw [Option.bind_some]
  dsimp only
  rw [q0, Option.bind_some, Option.bind_some]
  exact ⟨e, rfl, q3⟩
theorem table_p (k : Nat) (xs : List INode) (hE : isE xs = true) (hk : 5000 < k) : laws_pTable.f k xs = some (tableL xs) := by
  obtain ⟨n1, n2, _⟩ := isE_true hE
  unfold laws_pTable.f impl_TableOf.f
  rw [isExpr_f k xs (by omega) (by omega), Option.bind_some, if_pos hE, table_i k xs hE hk, Option.bind_some, Option.bind_some]
theorem last_loop (xs : List INode) (hE : isE xs = true) (hf : noFold xs) (d : Nat) : ∀ k i : Nat, i + d = xs.length → 2 * d < k → laws_FnFoldedExpressions.l0 k xs xs (xs.length : Int) (i : Int) = some true := by
  obtain ⟨n1, n2, hok⟩ := isE_true hE
  induction d with
  | zero =>
    intro k i h hk
    obtain ⟨k, rfl⟩ : ∃ m, k = m + 1 := ⟨k - 1, by omega⟩
    simp only [laws_FnFoldedExpressions.l0]
    rw [if_neg (by omega)]
  | succ d ih =>
    intro k i h hk
    obtain ⟨k, rfl⟩ : ∃ m, k = m + 2 := ⟨k - 2, by omega⟩
    have hi : i < xs.length := by omega
    have hn := hf i hi
    have hk' := ih k (i + 1) (by omega) (by omega)
    rw [show k + 2 = (k + 1) + 1 from rfl]
    have hkd := node_kinds (hok i hi)
    have hpl := fun p hp => parts_lt (hok i hi) p hp
    have hj : ∀ b : Bool, b = one xs[i].f0.toList → laws_FnFoldedExpressions.j5 (k + 1) xs xs (xs.length : Int) (i : Int) b xs[i].f0 xs[i].f1 xs[i].f2 xs[i].f3 = some true := fun b hb => by
      simp only [laws_FnFoldedExpressions.j5]
      rw [wrapS hi (by omega)]
      by_cases h1 : one xs[i].f0.toList = true
      · have hp := hpl _ (parts_mem_one h1)
        rw [hb, h1, if_pos rfl, if_pos hp.1, if_pos (by omega)]
        have hc : ¬ (rd_T47 xs xs[i].f1).f0.toList = ([99, 111, 110, 115, 116] : List UInt8) := fun hc => hn (.inl ⟨h1, isC_iff.2 hc⟩)
        rw [if_neg hc]
        exact hk'
      · rw [hb, Bool.eq_false_iff.mpr h1, if_neg (by decide)]
        by_cases g1 : xs[i].f0.toList = ([105, 110] : List UInt8)
        · rw [if_pos g1]; exact hk'
        · rw [if_neg g1]
          by_cases g2 : xs[i].f0.toList = ([99, 111, 110, 115, 116] : List UInt8)
          · rw [if_pos g2]; exact hk'
          · rw [if_neg g2]
            have h2 : two xs[i].f0.toList = true := by
              rcases hkd with ⟨g, _⟩ | ⟨g, _⟩ | ⟨_, g, _⟩ | ⟨_, _, g, _⟩
              · exact absurd g g1
              · exact absurd g g2
              · exact absurd g h1
              · exact g
            have hp := hpl _ (parts_mem_two h2).1
            have hq := hpl _ (parts_mem_two h2).2
            rw [if_pos hp.1, if_pos (by omega)]
            by_cases c1 : (rd_T47 xs xs[i].f1).f0.toList = ([99, 111, 110, 115, 116] : List UInt8)
            · have c2 : ¬ (rd_T47 xs xs[i].f2).f0.toList = ([99, 111, 110, 115, 116] : List UInt8) := fun c2 => hn (.inr ⟨h2, isC_iff.2 c1, isC_iff.2 c2⟩)
              rw [if_pos c1, if_pos hq.1, if_pos (by omega), if_neg c2]
              exact hk'
            · rw [if_neg c1]
              exact hk'
    simp only [laws_FnFoldedExpressions.l0]
    rw [if_pos (by omega), if_pos (by omega), if_pos (by omega), rdI xs i hi]
    by_cases e1 : xs[i].f0.toList = ([110, 111, 116] : List UInt8)
    · rw [if_pos e1]
      exact hj true (by unfold one; rw [e1]; decide)
    · rw [if_neg e1]
      refine hj _ ?_
      unfold one
      rw [show (xs[i].f0.toList == ([110, 111, 116] : List UInt8)) = false from by rw [Bool.eq_false_iff]; intro hc; exact e1 (beq_iff_eq.1 hc), Bool.false_or]
theorem law_f (k : Nat) (hk : 20000 < k) (l0 l1 : List Int) (h : by8 l0) (h' : by8 l1) : laws_FnFoldedExpressions.f k l0 l1 = some true := by
  unfold laws_FnFoldedExpressions.f laws_big.f
  by_cases b0 : (l0.length : Int) > 1048576
  · rw [if_pos b0, Option.bind_some, if_pos rfl]
  rw [if_neg b0, Option.bind_some, wrap64_small (n := 1048576 - (l0.length : Int)) (by omega) (by omega)]
  by_cases b1 : (l1.length : Int) > 1048576 - (l0.length : Int)
  · rw [if_pos (decide_eq_true b1)]
  rw [if_neg (by rw [decide_eq_false b1]; decide)]
  clear b0 b1
  obtain ⟨e, e1, e2⟩ := drawFold_ok h k (by omega)
  rw [e1, Option.bind_some]
  -- what stands behind the questions of the other expression
  have J1 : ∀ k : Nat, 15000 < k → ∀ q : List INode × Bool, (q.2 = isE e) → (isE e = true → isE q.1 = true ∧ (∀ x y, evalE q.1 x y = evalE e x y) ∧ nOps q.1 ≤ nOps e ∧ noFold q.1) → laws_FnFoldedExpressions.j1 k e q.1 q.2 false = some true := by
    intro k hk q hq2 hq
    obtain ⟨out, fine⟩ := q
    have hq2 : fine = isE e := hq2
    subst hq2
    obtain ⟨k, rfl⟩ : ∃ m, k = m + 3 := ⟨k - 3, by omega⟩
    rw [show k + 3 = (k + 2) + 1 from rfl]
    simp only [laws_FnFoldedExpressions.j1]
    rw [if_neg (by decide)]
    by_cases hE : isE e = true
    · obtain ⟨g1, g2, g3, g4⟩ := hq hE
      obtain ⟨n1, n2, _⟩ := isE_true hE
      obtain ⟨m1, m2, _⟩ := isE_true g1
      have g1 : isE out = true := g1
      have g3 : nOps out ≤ nOps e := g3
      have m1 : 1 ≤ out.length := m1
      have m2 : out.length ≤ 24 := m2
      rw [if_pos hE, fold_fix (k + 2) out g1 g4 (by omega), Option.bind_some, (count_f (k + 2) e (by omega) (by omega)).1, (count_f (k + 2) out (by omega) (by omega)).1, if_pos hE, if_pos g1, Option.bind_some, Option.bind_some]
      dsimp only
      rw [if_pos rfl, if_pos rfl, if_pos rfl, if_neg (by omega), pSameE_f (k + 2) out (by omega) (by omega), Option.bind_some, if_pos rfl, table_p (k + 2) out g1 (by omega), table_p (k + 2) e hE (by omega), Option.bind_some, Option.bind_some, tableL_congr out e g2, pSame_f (k + 2) (tableL e) (by rw [tableL_length]; omega) (by rw [tableL_length]; omega), Option.bind_some]
      rw [show k + 2 = (k + 1) + 1 from rfl]
      simp only [laws_FnFoldedExpressions.j2, Bool.not_true]
      rw [if_neg (by decide), (inputsOf_same (k + 1) out (by omega) (by omega)).2, if_pos g1, Option.bind_some]
      dsimp only
      rw [if_pos rfl]
      have hl : laws_FnFoldedExpressions.j3 (k + 1) out false = some true := by
        simp only [laws_FnFoldedExpressions.j3]
        rw [if_neg (by decide)]
        exact last_loop out g1 g4 out.length k 0 (by omega) (by omega)
      by_cases hz : ((inp (out.any (isIn 0)) (out.any (isIn 1))).length : Int) = 0
      · obtain ⟨z0, z1⟩ := inp_nil (show (inp (out.any (isIn 0)) (out.any (isIn 1))).length = 0 by omega)
        have ho := noInputs out g1 g4 z0 z1
        rw [if_pos hz, show ((out.length : Int) != 1) = false by rw [ho]; rfl]
        exact hl
      · rw [if_neg hz]
        exact hl
    · rw [Bool.eq_false_iff.mpr hE, if_neg (by decide)]
  have J0 : ∀ k : Nat, 15010 < k → ∀ q : List INode × Bool, (q.2 = isE e) → (isE e = true → isE q.1 = true ∧ (∀ x y, evalE q.1 x y = evalE e x y) ∧ nOps q.1 ≤ nOps e ∧ noFold q.1) → laws_FnFoldedExpressions.j0 k l1 e q.1 q.2 false = some true := by
    intro k hk q hq2 hq
    obtain ⟨k, rfl⟩ : ∃ m, k = m + 1 := ⟨k - 1, by omega⟩
    simp only [laws_FnFoldedExpressions.j0]
    rw [if_neg (by decide)]
    obtain ⟨f, f1, f2⟩ := drawCount_ok h' k (by omega)
    obtain ⟨c1, c2⟩ := count_f k f (by omega) (by omega)
    obtain ⟨i1, i2⟩ := inputsOf_same k f (by omega) (by omega)
    obtain ⟨d, d1, d2, d3⟩ := depth_f k f (by omega) (by omega)
    rw [f1, Option.bind_some, c1, c2, i1, i2, d1, d2]
    simp only [Option.bind_some]
    have hj : laws_FnFoldedExpressions.j1 k e q.1 q.2 false = some true := J1 k (by omega) q hq2 hq
    rw [bne_self_eq_false, if_neg (by decide), if_true, bne_self_eq_false, if_neg (by decide)]
    have hs : ∀ u : List Int × Bool, u = (if isE f = true then (inp (f.any (isIn 0)) (f.any (isIn 1)), true) else ([], false)) → u.1.length ≤ 2 := fun u hu => by
      rw [hu]
      split
      · show (inp _ _).length ≤ 2
        cases f.any (isIn 0) <;> cases f.any (isIn 1) <;> simp [inp]
      · simp
    rw [pSame_f k _ (by have := hs _ rfl; omega) (by have := hs _ rfl; omega), Option.bind_some, if_pos rfl, bne_self_eq_false, if_neg (by decide), if_true]
    by_cases hF : isE f = true
    · rw [if_pos hF]
      dsimp only
      rw [if_pos rfl, decide_eq_false (by have := d3 hF; omega)]
      exact hj
    · rw [if_neg hF]
      dsimp only
      rw [if_neg (by decide)]
      exact hj
  obtain ⟨q, q1, q2, q3⟩ := foldExpr_same k e (by omega) (by omega)
  rw [q1, q2, Option.bind_some, Option.bind_some, bne_self_eq_false, if_neg (by decide), pSameE_f k q.1 (by omega) (by omega), Option.bind_some]
  have hq : q.2 = isE e ∧ (isE e = true → isE q.1 = true ∧ (∀ x y, evalE q.1 x y = evalE e x y) ∧ nOps q.1 ≤ nOps e ∧ noFold q.1) := by
    by_cases hE : isE e = true
    · obtain ⟨out, g1, g2, g3, g4, g5⟩ := fold_sem k e hE (by omega)
      rw [q2] at g1
      obtain rfl := Option.some.inj g1
      exact ⟨hE.symm, fun _ => ⟨g2, g3, g4, g5⟩⟩
    · refine ⟨?_, fun h => absurd h hE⟩
      unfold impl_FoldExpr.f at q2
      rw [isExpr_f k e (by omega) (by omega), Option.bind_some, if_neg hE] at q2
      obtain rfl := Option.some.inj q2
      exact (Bool.eq_false_iff.mpr hE).symm
  exact J0 k (by omega) q hq.1 hq.2
theorem by8_of {l : List Int} (h : ∀ x ∈ l, (Lit.int .u8 x).wf = true) : by8 l := fun x hx => by
  have := h x hx
  unfold Lit.wf at this
  simp at this
  have e1 : IntKind.u8.min = 0 := rfl
  have e2 : IntKind.u8.max = 255 := rfl
  omega
theorem fnFoldedExpressions_pure : laws_FnFoldedExpressions.Pure := fun l0 l1 _ _ h0 _ _ h1 => ⟨100000, law_f 100000 (by omega) l0 l1 (by8_of h0) (by8_of h1)⟩
end Go.Proofs.Ytlcplhcccgbmnaa.PureOps
