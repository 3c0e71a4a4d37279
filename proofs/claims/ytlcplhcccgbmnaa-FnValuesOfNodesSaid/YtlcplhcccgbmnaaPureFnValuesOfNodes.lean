/- The value of an expression is that of its root, each node's value is made of those of its operands, and the table has all of them. Plain. -/
import Derived.Test.YtlcplhcccgbmnaaRVals
import Derived.Test.YtlcplhcccgbmnaaRDraw
import Derived.Test.YtlcplhcccgbmnaaRPureTableOf
import Derived.Test.YtlcplhcccgbmnaaRPureApplyOp
import Derived.Test.YtlcplhcccgbmnaaCLawsFnValuesOfNodes
namespace Go.Proofs.Ytlcplhcccgbmnaa.PureOps
open Go.RowKit Go.Proofs.Ytlcplhcccgbmnaa.C Go.Proofs.YtlcplhcccgbmnaaW.PrintWords Go.Proofs.YtlcplhcccgbmnaaW.PrintLast Go.Proofs.YtlcplhcccgbmnaaW.PrintMore
set_option linter.unusedVariables false
set_option linter.unusedSimpArgs false
theorem same_loop (u : List Int) (hn : u.length ≤ 10000) (d : Nat) : ∀ k j : Nat, j + d = u.length → d < k → laws_pSame.l0 k u u (u.length : Int) (j : Int) = some true := by
  induction d with
  | zero =>
    intro k j h hk
    obtain ⟨k, rfl⟩ : ∃ m, k = m + 1 := ⟨k - 1, by omega⟩
    simp only [laws_pSame.l0]
    rw [if_neg (by omega)]
  | succ d ih =>
    intro k j h hk
    obtain ⟨k, rfl⟩ : ∃ m, k = m + 1 := ⟨k - 1, by omega⟩
    have hj : j < u.length := by omega
    simp only [laws_pSame.l0]
    rw [if_pos (by omega), if_pos (by omega), if_pos (by omega), if_pos (by omega), if_true, wrapS hj (by omega)]
    exact ih k (j + 1) (by omega) (by omega)
theorem pSame_f (k : Nat) (u : List Int) (hn : u.length ≤ 10000) (hk : u.length < k) : laws_pSame.f k u u = some true := by
  unfold laws_pSame.f
  rw [if_pos rfl]
  exact same_loop u hn u.length k 0 (by omega) hk
theorem areRight_f (k : Nat) (xs : List INode) (x y : Int) (hk : 4 * xs.length + 60 < k) (hn : xs.length ≤ 1048576) : impl_areRight.f k xs x y = some (isE xs && (word x && word y)) := by
  unfold impl_areRight.f
  rw [isExpr_f k xs hk hn, isWord_f, isWord_f]
  cases isE xs <;> cases word x <;> cases word y <;> rfl
theorem anyWord_ok {cd : List Int} (h : by8 cd) (a s : Int) (h0 : 0 ≤ a) (h1 : a ≤ 700000000) : ∃ x a' s', spec_l1Cur_anyWord.f cd a s = some (x, a', s') ∧ a ≤ a' ∧ a' ≤ a + 6 := by
  unfold spec_l1Cur_anyWord.f
  obtain ⟨x, a1, s1, e, e1, e2⟩ := one_ok h a s 14 h0 (by omega) (by omega)
  rw [e, Option.bind_some]
  dsimp only
  split
  · obtain ⟨y, a2, s2, f, f1, f2⟩ := among_ok h a1 s1 (by omega) (by omega) [(-1), 64, 4611686018427387904] (by simp) (by simp)
    rw [f, Option.bind_some]
    exact ⟨y, a2, s2, rfl, by omega, by omega⟩
  · obtain ⟨y, a2, s2, f, f1, f2⟩ := word_ok h a1 s1 (by omega) (by omega)
    rw [f, Option.bind_some]
    exact ⟨y, a2, s2, rfl, by omega, by omega⟩
theorem applyOp_both (k : Nat) (hk : 20 < k) (o : ByteArray) (a b : Int) : ∃ r, impl_ApplyOp.f k o a b = some r ∧ spec_ApplyOp.f k o a b = some r := by
  unfold spec_ApplyOp.f impl_ApplyOp.f
  simp only [exWord_f, isWord_f, exOne, exTwo k (by omega), operands_f k (by omega), Option.bind_some]
  by_cases ha : word a = true
  · by_cases hb : word b = true
    · have hb0 : 0 ≤ b := (word_iff.1 hb).1
      simp only [app_spec o a b hb0, app_impl o a b hb0, ha, hb, if_true, Option.bind_some]
      by_cases h1 : one o.toList = true
      · have e1 : ops o.toList = 1 := ops_one.2 h1
        simp only [h1, e1, if_true]
        by_cases h0 : b = 0 <;> simp [h0]
      · have n1 : ops o.toList ≠ 1 := fun e => h1 (ops_one.1 e)
        by_cases h2 : two o.toList = true
        · have e2 : ops o.toList = 2 := ops_two.2 h2
          simp [h1, h2, e2]
        · have lt : ops o.toList < 1 := (ops_lt _).2 ⟨by simpa using h1, by simpa using h2⟩
          simp [h1, h2, lt]
    · by_cases h1 : ops o.toList < 1 <;> simp [ha, hb, h1]
  · by_cases h1 : ops o.toList < 1 <;> simp [ha, h1]
theorem applyOp_one (k : Nat) (hk : 20 < k) (o : ByteArray) (a : Int) (ha : 0 ≤ a ∧ a ≤ 63) (h1 : one o.toList = true) : impl_ApplyOp.f k o a 0 = some (app o a 0, true) := by
  have e1 : ops o.toList = 1 := ops_one.2 h1
  unfold impl_ApplyOp.f
  simp only [isWord_f, operands_f k (by omega), Option.bind_some, e1, word_iff.2 ha, show word 0 = true by decide, app_impl o a 0 (by omega)]
  rfl
theorem applyOp_two (k : Nat) (hk : 20 < k) (o : ByteArray) (a b : Int) (ha : 0 ≤ a ∧ a ≤ 63) (hb : 0 ≤ b ∧ b ≤ 63) (h1 : one o.toList = false) (h2 : two o.toList = true) : impl_ApplyOp.f k o a b = some (app o a b, true) := by
  have e1 : ops o.toList = 2 := ops_two.2 h2
  unfold impl_ApplyOp.f
  simp only [isWord_f, operands_f k (by omega), Option.bind_some, e1, word_iff.2 ha, word_iff.2 hb, app_impl o a b hb.1]
  rfl
theorem drawApply_ok {cd : List Int} (h : by8 cd) (k : Nat) : ∃ r, spec_DrawApplyOp.f (k + 1) cd = some r := by
  have j0 : ∀ (o : ByteArray) (b : Bool) (a s : Int), 0 ≤ a → a ≤ 600000000 → ∃ r, spec_DrawApplyOp.j0 (k + 1) o b cd a s = some r := fun o b a s h0 h1 => by
    simp only [spec_DrawApplyOp.j0]
    obtain ⟨x, a1, s1, e, e1, e2⟩ := anyWord_ok h a s h0 (by omega)
    obtain ⟨y, a2, s2, f, f1, f2⟩ := anyWord_ok h a1 s1 (by omega) (by omega)
    cases b with
    | true => rw [if_pos rfl, e, Option.bind_some]; exact ⟨_, rfl⟩
    | false =>
      rw [if_neg (by decide), e, Option.bind_some]
      dsimp only
      rw [f, Option.bind_some]
      exact ⟨_, rfl⟩
  unfold spec_DrawApplyOp.f spec_newstate.f spec_exOps.f
  simp only [Option.bind_some]
  rw [if_pos (by simp)]
  obtain ⟨o, a1, s1, e, e1, e2⟩ := of_ok h 0 0 (by omega) (by omega) ([(⟨#[97, 100, 100]⟩ : ByteArray), (⟨#[115, 117, 98]⟩ : ByteArray), (⟨#[109, 117, 108]⟩ : ByteArray), (⟨#[97, 110, 100]⟩ : ByteArray), (⟨#[111, 114]⟩ : ByteArray), (⟨#[120, 111, 114]⟩ : ByteArray), (⟨#[115, 104, 108]⟩ : ByteArray), (⟨#[115, 104, 114]⟩ : ByteArray), (⟨#[108, 101, 115, 115]⟩ : ByteArray), (⟨#[101, 113]⟩ : ByteArray)] ++ [(⟨#[110, 111, 116]⟩ : ByteArray), (⟨#[110, 101, 103]⟩ : ByteArray), (⟨#[105, 110]⟩ : ByteArray), (⟨#[99, 111, 110, 115, 116]⟩ : ByteArray), (⟨#[]⟩ : ByteArray)]) (by simp) (by simp)
  rw [e, Option.bind_some]
  dsimp only
  rw [exOne, Option.bind_some]
  split
  · obtain ⟨x, a2, s2, f, f1, f2⟩ := one_ok h a1 s1 4 (by omega) (by omega) (by omega)
    rw [f, Option.bind_some]
    dsimp only
    exact j0 _ _ _ _ (by omega) (by omega)
  · exact j0 _ _ _ _ (by omega) (by omega)
/-- The loop over the nodes. -/
theorem nodes_loop (e : List INode) (hE : isE e = true) (x y : Nat) (hx : x < 64) (hy : y < 64) (d : Nat) : ∀ k i : Nat, i + d = e.length → 6200 + 2 * d < k →
    laws_FnValuesOfNodes.l0 k e (x : Int) (y : Int) (vals e (x : Int) (y : Int)) (evalE e (x : Int) (y : Int)) e (e.length : Int) (i : Int) = some true := by
  obtain ⟨n1, n2, hok⟩ := isE_true hE
  obtain ⟨_, _, hl, hw⟩ := values_f 101 e hE (word_nat hx) (word_nat hy) (by omega)
  have hV := vals_V e hok (x : Int) (y : Int)
  induction d with
  | zero =>
    intro k i h hk
    obtain ⟨k, rfl⟩ : ∃ m, k = m + 1 := ⟨k - 1, by omega⟩
    simp only [laws_FnValuesOfNodes.l0]
    have hi : wrap64 (wrap64 (64 * (x : Int)) + (y : Int)) = ((64 * x + y : Nat) : Int) := by rw [wrap64_small (n := 64 * (x : Int)) (by omega) (by omega), wrap64_small (by omega) (by omega)]; omega
    rw [if_neg (by omega)]
    unfold laws_pTable.f
    rw [(tableOf_same k e (by omega) (by omega)).2, Option.bind_some, Option.bind_some]
    unfold tableOf_res
    rw [if_pos hE]
    dsimp only
    simp only [hi]
    have hlt : ((64 * x + y : Nat) : Int) < ((tableL e).length : Int) := by
      have := tableL_length e
      omega
    have h0 : (0 : Int) ≤ ((64 * x + y : Nat) : Int) := Int.natCast_nonneg _
    rw [if_pos h0, if_pos hlt, tableL_at e hx hy]
    simp
  | succ d ih =>
    intro k i h hk
    obtain ⟨k, rfl⟩ : ∃ m, k = m + 2 := ⟨k - 2, by omega⟩
    have hi : i < e.length := by omega
    have hS : wrap64 ((i : Int) + 1) = ((i + 1 : Nat) : Int) := wrapS hi (by omega)
    have IH1 := ih (k + 1) (i + 1) (by omega) (by omega)
    have IH0 := ih k (i + 1) (by omega) (by omega)
    have hv := hV i hi
    rw [show k + 2 = (k + 1) + 1 from rfl]
    simp only [laws_FnValuesOfNodes.l0]
    rw [if_pos (by omega), if_pos (by omega), if_pos (by omega), rdI e i hi, hS]
    rcases node_kinds (hok i hi) with ⟨h1, _, k0, k1⟩ | ⟨h1, _⟩ | ⟨hlf, ho, p0, p1⟩ | ⟨hlf, ho, ht, p0, p1, q0, q1⟩
    · rw [val_in h1] at hv
      rw [if_pos h1]
      by_cases h0 : e[i].f3 = 0
      · rw [if_pos h0] at hv
        rw [if_pos h0, if_pos (by omega), if_pos hv, if_neg (show ¬ e[i].f3 = 1 by omega)]
        exact IH1
      · rw [if_neg h0] at hv
        rw [if_neg h0, if_pos (show e[i].f3 = 1 by omega), if_pos (by omega), if_pos hv]
        exact IH1
    · rw [val_const h1] at hv
      rw [if_neg (by rw [h1]; decide), if_pos h1, if_pos (by omega), if_pos hv]
      exact IH1
    · rw [val_op hlf] at hv
      unfold opV at hv
      rw [if_pos ho] at hv
      have n1' : ¬ e[i].f0.toList = [105, 110] := fun h => by rw [h] at hlf; exact absurd hlf (by decide)
      have n2' : ¬ e[i].f0.toList = [99, 111, 110, 115, 116] := fun h => by rw [h] at hlf; exact absurd hlf (by decide)
      have J : laws_FnValuesOfNodes.j4 (k + 1) e (x : Int) (y : Int) (vals e (x : Int) (y : Int)) (evalE e (x : Int) (y : Int)) (i : Int) e (e.length : Int) (i : Int) true e[i].f0 e[i].f1 e[i].f2 e[i].f3 = some true := by
        simp only [laws_FnValuesOfNodes.j4]
        rw [if_pos trivial, if_pos p0, if_pos (by omega), applyOp_one k (by omega) _ _ (rd_word hw _) ho, Option.bind_some]
        dsimp only
        rw [if_pos rfl, if_pos (by omega), if_pos (by omega), if_pos hv.symm, hS]
        exact IH0
      rw [if_neg n1', if_neg n2']
      have ho' := ho
      unfold one at ho'
      simp only [Bool.or_eq_true, beq_iff_eq] at ho'
      rcases ho' with ho' | ho'
      · rw [if_pos ho', show (e[i].f0.toList == [110, 111, 116]) = true from beq_iff_eq.2 ho']
        exact J
      · rw [if_neg (by rw [ho']; decide), show (e[i].f0.toList == [110, 101, 103]) = true from beq_iff_eq.2 ho']
        exact J
    · rw [val_op hlf] at hv
      unfold opV at hv
      rw [ho, if_neg (by decide)] at hv
      have n1' : ¬ e[i].f0.toList = [105, 110] := fun h => by rw [h] at hlf; exact absurd hlf (by decide)
      have n2' : ¬ e[i].f0.toList = [99, 111, 110, 115, 116] := fun h => by rw [h] at hlf; exact absurd hlf (by decide)
      have n3' : ¬ e[i].f0.toList = [110, 111, 116] := fun h => by rw [h] at ho; exact absurd ho (by decide)
      have n4' : (e[i].f0.toList == [110, 101, 103]) = false := beq_eq_false_iff_ne.2 (fun h => by rw [h] at ho; exact absurd ho (by decide))
      rw [if_neg n1', if_neg n2', if_neg n3', n4']
      simp only [laws_FnValuesOfNodes.j4]
      rw [if_neg (by decide), if_pos p0, if_pos (by omega), if_pos q0, if_pos (by omega), applyOp_two k (by omega) _ _ _ (rd_word hw _) (rd_word hw _) ho ht, Option.bind_some]
      dsimp only
      rw [if_pos rfl, if_pos (by omega), if_pos (by omega), if_pos hv.symm, hS]
      exact IH0
theorem law_f (k : Nat) (hk : 20000 < k) (l0 l1 : List Int) (h : by8 l0) (h' : by8 l1) : laws_FnValuesOfNodes.f k l0 l1 = some true := by
  unfold laws_FnValuesOfNodes.f laws_big.f
  by_cases b0 : (l0.length : Int) > 1048576
  · rw [if_pos b0, Option.bind_some, if_pos rfl]
  rw [if_neg b0, Option.bind_some, wrap64_small (n := 1048576 - (l0.length : Int)) (by omega) (by omega)]
  by_cases b1 : (l1.length : Int) > 1048576 - (l0.length : Int)
  · rw [if_pos (decide_eq_true b1)]
  rw [if_neg (by rw [decide_eq_false b1]; decide)]
  unfold spec_DrawValuesOf.f spec_DrawEvalExpr.f spec_newstate.f
  rw [Option.bind_some]
  dsimp only
  obtain ⟨e, a1, s1, q, q1, q2, q3⟩ := anyExpr_ok h 4 (by omega) k (by omega) 0 0 (by omega) (by omega)
  have q0 : spec_l1Cur_anyExpr.f k l0 0 0 4 = some (e, a1, s1) := q
  rw [q0, Option.bind_some]
  dsimp only
  obtain ⟨x, a2, s2, f, f1, f2⟩ := anyWord_ok h a1 s1 (by omega) (by omega)
  rw [f, Option.bind_some]
  dsimp only
  obtain ⟨y, a3, s3, g, g1, g2⟩ := anyWord_ok h a2 s2 (by omega) (by omega)
  rw [g, Option.bind_some, Option.bind_some, Option.bind_some]
  dsimp only
  -- what stands behind the first question
  have J2 : ∀ (k : Nat) (vs : List Int) (own : Int) (fine : Bool), 7000 < k → (fine = true → ∃ p q : Nat, p < 64 ∧ q < 64 ∧ x = (p : Int) ∧ y = (q : Int) ∧ isE e = true ∧ vs = vals e x y ∧ own = evalE e x y) → laws_FnValuesOfNodes.j2 k e x y vs fine own false = some true := fun k vs own fine hk hf => by
    obtain ⟨k, rfl⟩ : ∃ m, k = m + 1 := ⟨k - 1, by omega⟩
    simp only [laws_FnValuesOfNodes.j2]
    rw [if_neg (by decide)]
    cases fine with
    | false => rw [if_neg (by decide)]
    | true =>
      obtain ⟨p, q, hp, hq, e1, e2, hE, e3, e4⟩ := hf rfl
      obtain ⟨_, n2, _⟩ := isE_true hE
      rw [if_pos rfl, e3, e4, e1, e2]
      exact nodes_loop e hE p q hp hq e.length k 0 (by omega) (by omega)
  have J1 : ∀ (k : Nat) (vs : List Int) (own : Int) (fine : Bool), 7010 < k → (fine = true → ∃ p q : Nat, p < 64 ∧ q < 64 ∧ x = (p : Int) ∧ y = (q : Int) ∧ isE e = true ∧ vs = vals e x y ∧ own = evalE e x y) → laws_FnValuesOfNodes.j1 k l1 e x y vs fine own false = some true := fun k vs own fine hk hf => by
    obtain ⟨k, rfl⟩ : ∃ m, k = m + 2 := ⟨k - 2, by omega⟩
    rw [show k + 2 = (k + 1) + 1 from rfl]
    simp only [laws_FnValuesOfNodes.j1]
    rw [if_neg (by decide)]
    obtain ⟨r, hr⟩ := drawApply_ok h' k
    rw [hr, Option.bind_some]
    obtain ⟨z, z1, z2⟩ := applyOp_both (k + 1) (by omega) r.1 r.2.1 r.2.2
    rw [z1, z2, Option.bind_some, Option.bind_some, bne_self_eq_false, if_neg (by decide), bne_self_eq_false]
    exact J2 (k + 1) vs own fine (by omega) hf
  have J0 : ∀ (k : Nat) (vs : List Int) (own : Int) (fine : Bool), 7020 < k → (fine = true → ∃ p q : Nat, p < 64 ∧ q < 64 ∧ x = (p : Int) ∧ y = (q : Int) ∧ isE e = true ∧ vs = vals e x y ∧ own = evalE e x y) → laws_FnValuesOfNodes.j0 k l1 e x y vs fine own false = some true := fun k vs own fine hk hf => by
    obtain ⟨k, rfl⟩ : ∃ m, k = m + 1 := ⟨k - 1, by omega⟩
    simp only [laws_FnValuesOfNodes.j0]
    rw [if_neg (by decide)]
    obtain ⟨gx, c1, t1, v, v1, v2, v3⟩ := anyExpr_ok h' 3 (by omega) k (by omega) 0 0 (by omega) (by omega)
    have v0 : spec_DrawTableOf.f k l1 = some gx := by
      unfold spec_DrawTableOf.f spec_newstate.f
      have v' : spec_l1Cur_anyExpr.f k l1 0 0 3 = some (gx, c1, t1) := v
      rw [Option.bind_some]
      dsimp only
      rw [v', Option.bind_some]
    obtain ⟨t2, t3⟩ := tableOf_same k gx (by omega) (by omega)
    have hsm := tableOf_small gx
    have ht : (tableOf_res gx).2 = isE gx := by
      unfold tableOf_res
      cases hE : isE gx with
      | true => rw [if_pos rfl]
      | false => rw [if_neg (by decide)]
    rw [v0, Option.bind_some, t3, t2, Option.bind_some, Option.bind_some, bne_self_eq_false, if_neg (by decide), pSame_f k (tableOf_res gx).1 (by omega) (by omega), Option.bind_some, if_pos rfl, isExpr_f k gx (by omega) (by omega), Option.bind_some, ht, bne_self_eq_false]
    exact J1 k vs own fine (by omega) hf
  unfold impl_ValuesOf.f spec_ValuesOf.f impl_EvalExpr.f
  rw [areRight_f k e x y (by omega) (by omega), good_f k e (by omega) (by omega), exWord_f, exWord_f]
  by_cases hR : isE e = true ∧ word x = true ∧ word y = true
  · obtain ⟨hE, hx, hy⟩ := hR
    obtain ⟨v1, v2, v3, v4⟩ := values_f k e hE hx hy (by omega)
    obtain ⟨_, w2⟩ := eval_f k e hE hx hy (by omega)
    obtain ⟨n1, n2, _⟩ := isE_true hE
    have hw : wrap64 (((vals e x y).length : Int) - 1) = ((e.length - 1 : Nat) : Int) := by rw [v3, wrap64_small (by omega) (by omega)]; omega
    simp only [Option.bind_some, hE, hx, hy, Bool.and_self, if_true, v1, v2, w2]
    rw [bne_self_eq_false, if_neg (by decide), pSame_f k (vals e x y) (by omega) (by omega), Option.bind_some, if_pos rfl, if_neg (by decide), hw, if_pos (by omega), if_pos (by omega)]
    have hown : (evalE e x y != rd (vals e x y) ((e.length - 1 : Nat) : Int)) = false := by unfold evalE; exact bne_self_eq_false ..
    rw [hown]
    have hx' := word_iff.1 hx
    have hy' := word_iff.1 hy
    exact J0 k _ _ _ (by omega) (fun _ => ⟨x.toNat, y.toNat, by omega, by omega, by omega, by omega, hE, rfl, rfl⟩)
  · have hA : (isE e && (word x && word y)) = false := by
      rw [Bool.eq_false_iff]
      intro hc
      simp only [Bool.and_eq_true] at hc
      exact hR ⟨hc.1, hc.2.1, hc.2.2⟩
    have hS : (((some (isE e)).bind fun t387 => (if t387 = true then ((some (word x)).bind fun t388 => (if t388 = true then ((some (word y)).bind fun t389 => (if t389 = true then ((spec_exValues.f k e x y).bind fun t390 => (some (t390, true))) else (some (([] : List Int), false)))) else (some (([] : List Int), false)))) else (some (([] : List Int), false)))) : Option (List Int × Bool)) = some ([], false) := by
      cases hE : isE e with
      | false => rfl
      | true =>
        cases hx : word x with
        | false => rfl
        | true =>
          cases hy : word y with
          | false => rfl
          | true => exact absurd ⟨hE, hx, hy⟩ hR
    rw [hS, hA]
    simp only [Option.bind_some, Bool.false_eq_true, if_false]
    rw [bne_self_eq_false, if_neg (by decide), pSame_f k [] (by simp) (by simp; omega), Option.bind_some, if_pos rfl, if_neg (by decide)]
    exact J0 k _ _ _ (by omega) (fun hc => by cases hc)
theorem by8_of {l : List Int} (h : ∀ x ∈ l, (Lit.int .u8 x).wf = true) : by8 l := fun x hx => by
  have := h x hx
  unfold Lit.wf at this
  simp at this
  have e1 : IntKind.u8.min = 0 := rfl
  have e2 : IntKind.u8.max = 255 := rfl
  omega
theorem fnValuesOfNodes_pure : laws_FnValuesOfNodes.Pure := fun l0 l1 _ _ h0 _ _ h1 => ⟨100000, law_f 100000 (by omega) l0 l1 (by8_of h0) (by8_of h1)⟩
end Go.Proofs.Ytlcplhcccgbmnaa.PureOps
