/- An expression in place of an input is evaluated first. Plain. -/
import Derived.Test.YtlcplhcccgbmnaaQPutSem
import Derived.Test.YtlcplhcccgbmnaaQDraw
import Derived.Test.YtlcplhcccgbmnaaBLawsFnInputsPut
namespace Go.Proofs.Ytlcplhcccgbmnaa.PureOps
open Go.RowKit Go.Proofs.Ytlcplhcccgbmnaa.B Go.Proofs.YtlcplhcccgbmnaaW.PrintWords Go.Proofs.YtlcplhcccgbmnaaW.PrintLast Go.Proofs.YtlcplhcccgbmnaaW.PrintMore
set_option linter.unusedVariables false
set_option linter.unusedSimpArgs false
theorem same_loop (u : List Int) (hn : u.length ≤ 1000) (d : Nat) : ∀ k j : Nat, j + d = u.length → d < k → laws_pSame.l0 k u u (u.length : Int) (j : Int) = some true := by
  induction d with
  | zero =>
    intro k j h hk
    obtain ⟨k, rfl⟩ : ∃ m, k = m + 1 := ⟨k - 1, by omega⟩
    simp only [laws_pSame.l0]
    rw [if_neg (by omega)]
  | succ d ih =>
    intro k j h hk
    obtain ⟨k, rfl⟩ : ∃ m, k = m + 1 := ⟨k - 1, by omega⟩
    have hj : j < u.length := by omega
    simp only [laws_pSame.l0]
    rw [if_pos (by omega), if_pos (by omega), if_pos (by omega), if_pos (by omega), if_true, wrapS hj (by omega)]
    exact ih k (j + 1) (by omega) (by omega)
theorem pSame_f (k : Nat) (u : List Int) (hn : u.length ≤ 1000) (hk : u.length < k) : laws_pSame.f k u u = some true := by
  unfold laws_pSame.f
  rw [if_pos rfl]
  exact same_loop u hn u.length k 0 (by omega) hk
theorem sameE_loop (u : List INode) (hn : u.length ≤ 1000) (d : Nat) : ∀ k j : Nat, j + d = u.length → d < k → laws_pSameExpr.l0 k u u (u.length : Int) (j : Int) = some true := by
  induction d with
  | zero =>
    intro k j h hk
    obtain ⟨k, rfl⟩ : ∃ m, k = m + 1 := ⟨k - 1, by omega⟩
    simp only [laws_pSameExpr.l0]
    rw [if_neg (by omega)]
  | succ d ih =>
    intro k j h hk
    obtain ⟨k, rfl⟩ : ∃ m, k = m + 1 := ⟨k - 1, by omega⟩
    have hj : j < u.length := by omega
    simp only [laws_pSameExpr.l0, beq_self_eq_true, Bool.not_true, Bool.or_self, Bool.false_eq_true, if_false]
    rw [if_pos (by omega), if_pos (by omega), if_pos (by omega), if_pos (by omega), wrapS hj (by omega)]
    exact ih k (j + 1) (by omega) (by omega)
theorem pSameExpr_f (k : Nat) (u : List INode) (hn : u.length ≤ 1000) (hk : u.length < k) : laws_pSameExpr.f k u u = some true := by
  unfold laws_pSameExpr.f
  rw [if_pos rfl]
  exact sameE_loop u hn u.length k 0 (by omega) hk
/-- The loop over the uses of a node. -/
theorem uses_loop (c0 c1 : List Int) (e : List INode) (a : Int) (f out : List INode) (fine : Bool) (u : List Int) (is : Bool) (hn : u.length ≤ 100) (K : Nat)
    (h1 : ∀ q : Nat, q < u.length - 1 → rd u (q : Int) ≠ 0) (h2 : is = true → ∀ q : Nat, q < u.length → rd u (q : Int) ≤ 1) (h3 : 1 ≤ u.length → rd u ((u.length - 1 : Nat) : Int) = 0)
    (fin : fine = true → ∀ k, K < k → laws_FnInputsPut.l1 k c0 c1 e a f out 0 = some true) (d : Nat) : ∀ k j : Nat, j + d = u.length → K + d + 1 < k →
    laws_FnInputsPut.l0 k c0 c1 e a f out fine u is u (u.length : Int) (j : Int) = some true := by
  induction d with
  | zero =>
    intro k j h hk
    obtain ⟨k, rfl⟩ : ∃ m, k = m + 1 := ⟨k - 1, by omega⟩
    simp only [laws_FnInputsPut.l0]
    rw [if_neg (by omega)]
    cases fine with
    | true => rw [if_pos rfl]; exact fin rfl k (by omega)
    | false => rw [if_neg (by decide)]
  | succ d ih =>
    intro k j h hk
    obtain ⟨k, rfl⟩ : ∃ m, k = m + 1 := ⟨k - 1, by omega⟩
    have hj : j < u.length := by omega
    have IH := ih k (j + 1) (by omega) (by omega)
    have hw : wrap64 ((u.length : Int) - 1) = (u.length : Int) - 1 := wrap64_small (by omega) (by omega)
    have hle : is = true → ¬ rd u (j : Int) > 1 := fun hi => by have := h2 hi j hj; omega
    simp only [laws_FnInputsPut.l0]
    rw [if_pos (by omega), if_pos (by omega), if_pos (by omega), hw, wrapS hj (by omega)]
    by_cases hc : (j : Int) < (u.length : Int) - 1
    · rw [if_pos hc, if_neg (h1 j (by omega)), if_neg (show ¬ (j : Int) = (u.length : Int) - 1 by omega)]
      cases is with
      | true => rw [if_pos rfl, if_neg (hle rfl)]; exact IH
      | false => rw [if_neg (by decide)]; exact IH
    · have hj2 : j = u.length - 1 := by omega
      have hz : rd u (j : Int) = 0 := by rw [hj2]; exact h3 (by omega)
      rw [if_neg hc, if_pos (show (j : Int) = (u.length : Int) - 1 by omega), if_pos hz]
      cases is with
      | true => rw [if_pos rfl, if_neg (hle rfl)]; exact IH
      | false => rw [if_neg (by decide)]; exact IH
theorem input_word {j n m : Nat} (hj : j < 64) (hm : m ≤ 100) (hn : n ≤ 1048576) : ∃ x : Int, Int.tmod (wrap64 ((wrap64 ((j : Int) * (m : Int))) + (n : Int))) 64 = x ∧ word x = true := by
  refine ⟨_, rfl, word_iff.2 ?_⟩
  have h0 : 0 ≤ (j : Int) * (m : Int) := Int.mul_nonneg (by omega) (by omega)
  have h1 : (j : Int) * (m : Int) ≤ 6400 := by
    have := Nat.mul_le_mul (show j ≤ 64 by omega) hm
    have e : (j : Int) * (m : Int) = ((j * m : Nat) : Int) := by simp
    omega
  rw [wrap64_small (n := (j : Int) * (m : Int)) (by omega) (by omega), wrap64_small (by omega) (by omega), Int.tmod_eq_emod_of_nonneg (by omega)]
  omega
/-- The loop over the inputs. -/
theorem inputs_loop (c0 c1 : List Int) (hc0 : c0.length ≤ 1048576) (hc1 : c1.length ≤ 1048576) (e f out : List INode) (a : Int) (hE : isE e = true) (hF : isE f = true) (hO : isE out = true) (ha : 0 ≤ a ∧ a ≤ 1)
    (hv : ∀ x y : Int, evalE out x y = evalE e (subX a x (evalE f x y)) (subY a y (evalE f x y))) (d : Nat) : ∀ k j : Nat, j + d = 64 → 400 + d < k → laws_FnInputsPut.l1 k c0 c1 e a f out (j : Int) = some true := by
  obtain ⟨n1, n2, _⟩ := isE_true hO
  induction d with
  | zero =>
    intro k j h hk
    obtain ⟨k, rfl⟩ : ∃ m, k = m + 1 := ⟨k - 1, by omega⟩
    simp only [laws_FnInputsPut.l1]
    rw [if_neg (by omega), isExpr_f k out (by omega) (by omega), Option.bind_some, hO]
  | succ d ih =>
    intro k j h hk
    obtain ⟨k, rfl⟩ : ∃ m, k = m + 1 := ⟨k - 1, by omega⟩
    have hj : j < 64 := by omega
    have IH := ih k (j + 1) (by omega) (by omega)
    obtain ⟨x, ex, hx⟩ := input_word (m := 37) hj (by omega) hc0
    obtain ⟨y, ey, hy⟩ := input_word (m := 11) hj (by omega) hc1
    have ex' : Int.tmod (wrap64 ((wrap64 ((j : Int) * 37)) + (c0.length : Int))) 64 = x := ex
    have ey' : Int.tmod (wrap64 ((wrap64 ((j : Int) * 11)) + (c1.length : Int))) 64 = y := ey
    have hw := word_iff.2 (evalE_word f hF hx hy)
    have hvx := hv x y
    simp only [laws_FnInputsPut.l1]
    rw [if_pos (by omega), ex', ey', evalExpr_i k f hF hx hy (by omega), Option.bind_some, evalExpr_i k out hO hx hy (by omega), Option.bind_some, wrapS hj (by omega)]
    dsimp only
    unfold subX subY at hvx
    by_cases h1 : a = 1
    · rw [if_pos h1, evalExpr_i k e hE hx hw (by omega), Option.bind_some]
      dsimp only
      rw [if_pos h1, if_pos h1] at hvx
      rw [if_pos rfl, if_pos rfl, if_pos rfl, if_pos hvx]
      exact IH
    · rw [if_neg h1, evalExpr_i k e hE hw hy (by omega), Option.bind_some]
      dsimp only
      rw [if_neg h1, if_neg h1] at hvx
      rw [if_pos rfl, if_pos rfl, if_pos rfl, if_pos hvx]
      exact IH
theorem isTree_i (k : Nat) (g : List INode) (hk : 4 * g.length + 60 < k) (hn : g.length ≤ 1048576) : impl_IsTree.f k g = some (isE g && once g, isE g) ∧ spec_IsTree.f k g = some (isE g && once g, isE g) := by
  constructor
  · unfold impl_IsTree.f
    rw [isTreeI_f k g hk hn, Option.bind_some, isExpr_f k g hk hn, Option.bind_some]
  · unfold spec_IsTree.f
    rw [good_f k g hk hn, Option.bind_some]
    cases hE : isE g with
    | true => rw [if_pos rfl, exTree_f k g hE hk hn, Option.bind_some, Bool.true_and]
    | false => rw [if_neg (by decide), Bool.false_and]
theorem usesOf_i (k : Nat) (g : List INode) (hk : 4 * g.length + 60 < k) (hn : g.length ≤ 1048576) : ∃ u, impl_UsesOf.f k g = some (u, isE g) ∧ spec_UsesOf.f k g = some (u, isE g) ∧ u.length ≤ 24 ∧ (∀ q : Nat, q < u.length - 1 → rd u (q : Int) ≠ 0) ∧ ((isE g && once g) = true → ∀ q : Nat, q < u.length → rd u (q : Int) ≤ 1) ∧ (1 ≤ u.length → rd u ((u.length - 1 : Nat) : Int) = 0) := by
  cases hE : isE g with
  | true =>
    obtain ⟨n1, n2, hok⟩ := isE_true hE
    refine ⟨usesL g, ?_, ?_, by rw [usesL_length]; omega, fun q hq => ?_, fun ho q hq => ?_, fun _ => ?_⟩
    · unfold impl_UsesOf.f
      rw [isExpr_f k g hk hn, Option.bind_some, if_pos hE, (uses_f k g hok hn (by omega)).2, Option.bind_some]
    · unfold spec_UsesOf.f
      rw [good_f k g hk hn, Option.bind_some, if_pos hE, (uses_f k g hok hn (by omega)).1, Option.bind_some]
    · rw [usesL_length] at hq
      have := (used_iff g hok (by omega) (q : Int) (by omega)).2 (isE_used hE q hq)
      omega
    · rw [usesL_length] at hq
      exact once_le (by simpa using ho) q hq
    · rw [usesL_length]
      exact uses_root hE
  | false =>
    refine ⟨[], ?_, ?_, by simp, fun q hq => by simp at hq, fun _ q hq => by simp at hq, fun h => by simp at h⟩
    · unfold impl_UsesOf.f
      rw [isExpr_f k g hk hn, Option.bind_some, hE, if_neg (by decide)]
    · unfold spec_UsesOf.f
      rw [good_f k g hk hn, Option.bind_some, hE, if_neg (by decide)]
theorem put_no (k : Nat) (xs ys : List INode) (a : Int) (hn : xs.length ≤ 100) (hm : ys.length ≤ 100) (hk : 1000 < k) (out : List INode) (h : impl_PutInput.f k xs a ys = some (out, true)) : isE xs = true ∧ isE ys = true ∧ 0 ≤ a ∧ a ≤ 1 := by
  obtain ⟨k, rfl⟩ : ∃ m, k = m + 1 := ⟨k - 1, by omega⟩
  unfold impl_PutInput.f at h
  rw [isExpr_f (k + 1) xs (by omega) (by omega), isExpr_f (k + 1) ys (by omega) (by omega), within_f] at h
  simp only [Option.bind_some, impl_PutInput.j0] at h
  by_cases hE : isE xs = true
  · rw [if_pos hE] at h
    by_cases hF : isE ys = true
    · rw [if_pos hF] at h
      by_cases ha : (decide (0 ≤ a) && decide (a ≤ 1)) = true
      · simp only [Bool.and_eq_true, decide_eq_true_eq] at ha
        exact ⟨hE, hF, ha.1, ha.2⟩
      · rw [Bool.eq_false_iff.2 ha, if_pos (by decide)] at h
        cases h
    · rw [if_neg hF, if_pos trivial] at h
      cases h
  · rw [if_neg hE, if_pos trivial] at h
    cases h
theorem law_f (k : Nat) (hk : 20000 < k) (l0 l1 : List Int) (h : by8 l0) (h' : by8 l1) : laws_FnInputsPut.f k l0 l1 = some true := by
  unfold laws_FnInputsPut.f laws_big.f
  by_cases b0 : (l0.length : Int) > 1048576
  · rw [if_pos b0, Option.bind_some, if_pos rfl]
  rw [if_neg b0, Option.bind_some, wrap64_small (n := 1048576 - (l0.length : Int)) (by omega) (by omega)]
  by_cases b1 : (l1.length : Int) > 1048576 - (l0.length : Int)
  · rw [if_pos (decide_eq_true b1)]
  rw [if_neg (by rw [decide_eq_false b1]; decide)]
  unfold spec_DrawPutInput.f spec_newstate.f
  rw [Option.bind_some]
  dsimp only
  obtain ⟨e, a1, s1, q, q1, q2, q3⟩ := anyExpr_ok h 3 (by omega) k (by omega) 0 0 (by omega) (by omega)
  have q0 : spec_l1Cur_anyExpr.f k l0 0 0 3 = some (e, a1, s1) := q
  rw [q0, Option.bind_some]
  dsimp only
  obtain ⟨p3, a2, s2, f, f1, f2, _⟩ := pick_ok h a1 s1 3 (by omega) (by omega) (by omega)
  rw [f, Option.bind_some]
  dsimp only
  obtain ⟨p9, a3, s3, g, g1, g2, _⟩ := pick_ok h a2 s2 9 (by omega) (by omega) (by omega)
  rw [g, Option.bind_some]
  dsimp only
  obtain ⟨ff, a4, s4, w, w1, w2, w3⟩ := anyExpr_ok h 3 (by omega) k (by omega) a3 s3 (by omega) (by omega)
  have w0 : spec_l1Cur_anyExpr.f k l0 a3 s3 3 = some (ff, a4, s4) := w
  rw [w0, Option.bind_some, Option.bind_some]
  dsimp only
  generalize wrap64 (p3 - wrap64 (Int.tdiv p9 8)) = a
  obtain ⟨r, r1, r2, r3⟩ := putInput_same k e ff a (by omega) (by omega) (by omega)
  rw [r1, r2, Option.bind_some, Option.bind_some, bne_self_eq_false, if_neg (by decide), pSameExpr_f k r.1 (by omega) (by omega), Option.bind_some]
  obtain ⟨k, rfl⟩ : ∃ m, k = m + 2 := ⟨k - 2, by omega⟩
  rw [show k + 2 = (k + 1) + 1 from rfl, Bool.not_true]
  simp only [laws_FnInputsPut.j0]
  rw [if_neg (by decide)]
  obtain ⟨gx, b1', t1, v, v1, v2, v3⟩ := anyExpr_ok h' 4 (by omega) (k + 1) (by omega) 0 0 (by omega) (by omega)
  have v0 : spec_DrawUsesOf.f (k + 1) l1 = some gx := by
    unfold spec_DrawUsesOf.f spec_DrawIsExpr.f spec_newstate.f
    have v' : spec_l1Cur_anyExpr.f (k + 1) l1 0 0 4 = some (gx, b1', t1) := v
    rw [Option.bind_some]
    dsimp only
    rw [v', Option.bind_some, Option.bind_some]
  obtain ⟨u, u1, u2, u3, u4, u5, u6⟩ := usesOf_i (k + 1) gx (by omega) (by omega)
  obtain ⟨i1, i2⟩ := isTree_i (k + 1) gx (by omega) (by omega)
  rw [v0, Option.bind_some, u1, u2, i1, i2]
  simp only [Option.bind_some]
  rw [bne_self_eq_false, if_neg (by decide), pSame_f (k + 1) u (by omega) (by omega), Option.bind_some, if_pos rfl, if_neg (by decide), bne_self_eq_false, if_neg (by decide)]
  simp only [laws_FnInputsPut.j1]
  rw [if_neg (by decide)]
  refine uses_loop l0 l1 e a ff r.1 r.2 u (isE gx && once gx) (by omega) 500 u4 u5 u6 (fun hf k' hk' => ?_) u.length k 0 (by omega) (by omega)
  obtain ⟨out, b⟩ := r
  have hb : b = true := hf
  subst hb
  obtain ⟨hE, hF, ha0, ha1⟩ := put_no (k + 2) e ff a (by omega) (by omega) (by omega) out r2
  obtain ⟨out', b', p1, p2⟩ := putInput_sem (k + 2) e ff a hE hF ⟨ha0, ha1⟩ (by omega)
  rw [r2] at p1
  injection p1 with p1
  injection p1 with p1 p1b
  subst p1
  subst p1b
  obtain ⟨hO, hv⟩ := p2 rfl
  exact inputs_loop l0 l1 (by omega) (by omega) e ff out a hE hF hO ⟨ha0, ha1⟩ hv 64 k' 0 (by omega) (by omega)
theorem by8_of {l : List Int} (h : ∀ x ∈ l, (Lit.int .u8 x).wf = true) : by8 l := fun x hx => by
  have := h x hx
  unfold Lit.wf at this
  simp at this
  have e1 : IntKind.u8.min = 0 := rfl
  have e2 : IntKind.u8.max = 255 := rfl
  omega
theorem fnInputsPut_pure : laws_FnInputsPut.Pure := fun l0 l1 _ _ h0 _ _ h1 => ⟨100000, law_f 100000 (by omega) l0 l1 (by8_of h0) (by8_of h1)⟩
end Go.Proofs.Ytlcplhcccgbmnaa.PureOps
