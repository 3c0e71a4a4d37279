/- A bit of a node is asked for exactly if changing it may change the value; all bits of the root are. Plain. -/
import Derived.Test.YtlcplhcccgbmnaaPChg
import Derived.Test.YtlcplhcccgbmnaaPDraw
import Derived.Test.YtlcplhcccgbmnaaALawsFnAskedBits
namespace Go.Proofs.Ytlcplhcccgbmnaa.PureOps
open Go.RowKit Go.Proofs.Ytlcplhcccgbmnaa.A Go.Proofs.YtlcplhcccgbmnaaW.PrintWords Go.Proofs.YtlcplhcccgbmnaaW.PrintLast Go.Proofs.YtlcplhcccgbmnaaW.PrintMore
set_option linter.unusedVariables false
set_option linter.unusedSimpArgs false
theorem asked_yes (k : Nat) (xs : List INode) (hE : isE xs = true) (i : Nat) (hi : i < xs.length) (hk : 60100 < k) : impl_AskedBits.f k xs (i : Int) = some (askAll xs i 4096 0 0, true) := by
  obtain ⟨n1, n2, _⟩ := isE_true hE
  obtain ⟨k, rfl⟩ : ∃ m, k = m + 1 := ⟨k - 1, by omega⟩
  have h2 := asked_i xs hE i hi 4096 k 0 0 (by omega) (by omega) ⟨by omega, by omega⟩
  have hw : wrap64 ((xs.length : Int) - 1) = (xs.length : Int) - 1 := wrap64_small (by omega) (by omega)
  unfold impl_AskedBits.f
  rw [isExpr_f (k + 1) xs (by omega) (by omega), within_f]
  simp only [Option.bind_some, impl_AskedBits.j0, hE, if_true, hw, show (decide (0 ≤ (i : Int)) && decide ((i : Int) ≤ (xs.length : Int) - 1)) = true by simp; omega, Bool.not_true, Bool.false_eq_true, if_false]
  exact h2
theorem asked_no (k : Nat) (xs : List INode) (a : Int) (hn : xs.length ≤ 100) (hk : 60500 < k) (h : ¬ (isE xs = true ∧ 0 ≤ a ∧ a < (xs.length : Int))) : impl_AskedBits.f k xs a = some (0, false) := by
  obtain ⟨k, rfl⟩ : ∃ m, k = m + 1 := ⟨k - 1, by omega⟩
  have hw : wrap64 ((xs.length : Int) - 1) = (xs.length : Int) - 1 := wrap64_small (by omega) (by omega)
  unfold impl_AskedBits.f
  rw [isExpr_f (k + 1) xs (by omega) (by omega), within_f]
  by_cases hE : isE xs = true
  · have ha : (decide (0 ≤ a) && decide (a ≤ (xs.length : Int) - 1)) = false := by
      rw [Bool.eq_false_iff]
      intro e
      simp only [Bool.and_eq_true, decide_eq_true_eq] at e
      exact h ⟨hE, e.1, by omega⟩
    simp only [Option.bind_some, impl_AskedBits.j0, hE, if_true, hw, ha, Bool.not_false]
  · simp only [Option.bind_some, impl_AskedBits.j0, if_neg hE, if_true]
/-- How many of the first nodes are the input of node i. -/
def cntTo (xs : List INode) (i : Nat) : Nat → Nat
  | 0 => 0
  | j + 1 => cntTo xs i j + if (xs.getD j z47).f0.toList = [105, 110] ∧ (xs.getD j z47).f3 = (xs.getD i z47).f3 then 1 else 0
theorem cntTo_le (xs : List INode) (i j : Nat) : cntTo xs i j ≤ j := by
  induction j with
  | zero => exact Nat.le_refl _
  | succ j ih => simp only [cntTo]; split <;> omega
theorem cntTo_mono (xs : List INode) (i : Nat) {j m : Nat} (h : j ≤ m) : cntTo xs i j ≤ cntTo xs i m := by
  induction m with
  | zero => obtain rfl : j = 0 := by omega
            exact Nat.le_refl _
  | succ m ih =>
    by_cases hj : j = m + 1
    · subst hj; exact Nat.le_refl _
    · exact Nat.le_trans (ih (by omega)) (by simp only [cntTo]; omega)
theorem cntTo_two (xs : List INode) (i : Nat) {p q n : Nat} (hpq : p < q) (hq : q < n) (h1 : (xs.getD p z47).f0.toList = [105, 110] ∧ (xs.getD p z47).f3 = (xs.getD i z47).f3) (h2 : (xs.getD q z47).f0.toList = [105, 110] ∧ (xs.getD q z47).f3 = (xs.getD i z47).f3) : 2 ≤ cntTo xs i n := by
  have e1 : cntTo xs i (p + 1) = cntTo xs i p + 1 := by simp only [cntTo]; rw [if_pos h1]
  have e2 : cntTo xs i (q + 1) = cntTo xs i q + 1 := by simp only [cntTo]; rw [if_pos h2]
  have m1 := cntTo_mono xs i (show p + 1 ≤ q by omega)
  have m2 := cntTo_mono xs i (show q + 1 ≤ n by omega)
  omega
theorem getD_at (xs : List INode) {j : Nat} (h : j < xs.length) : xs.getD j z47 = xs[j] := by rw [List.getD_eq_getElem?_getD, List.getElem?_eq_getElem h, Option.getD_some]
theorem count_loop (xs : List INode) (hn : xs.length ≤ 100) (i : Nat) (hi : i < xs.length) (mask : Int) (K : Nat)
    (fin : ∀ k, K < k → ∃ b, impl_DependsOn.f k xs xs[i].f3 = some (b, true) ∧ (cntTo xs i xs.length ≤ 1 → b = (mask != 0))) (d : Nat) : ∀ (k j : Nat), j + d = xs.length → K + d + 1 < k →
    laws_FnAskedBits.l0 k xs (i : Int) mask ((cntTo xs i j : Nat) : Int) xs (xs.length : Int) (j : Int) = some true := by
  induction d with
  | zero =>
    intro k j h hk
    obtain ⟨k, rfl⟩ : ∃ m, k = m + 1 := ⟨k - 1, by omega⟩
    obtain rfl : j = xs.length := by omega
    obtain ⟨b, h1, h2⟩ := fin k (by omega)
    simp only [laws_FnAskedBits.l0]
    rw [if_neg (by omega), if_pos (by omega), if_pos (by omega), rdI xs i hi, h1, Option.bind_some, if_pos rfl]
    by_cases hc : ((cntTo xs i xs.length : Nat) : Int) > 1
    · rw [if_pos hc]
    · rw [if_neg hc, h2 (by omega)]
      simp
  | succ d ih =>
    intro k j h hk
    obtain ⟨k, rfl⟩ : ∃ m, k = m + 1 := ⟨k - 1, by omega⟩
    have hj : j < xs.length := by omega
    have IH := ih k (j + 1) (by omega) (by omega)
    have hS : wrap64 ((j : Int) + 1) = ((j + 1 : Nat) : Int) := wrapS hj (by omega)
    have hc := cntTo_le xs i j
    have hC : wrap64 (((cntTo xs i j : Nat) : Int) + 1) = ((cntTo xs i j + 1 : Nat) : Int) := wrapS (show cntTo xs i j < 1000 by omega) (by omega)
    simp only [laws_FnAskedBits.l0]
    rw [if_pos (by omega), if_pos (by omega), if_pos (by omega), rdI xs j hj, hS, hC]
    simp only [cntTo, getD_at xs hj, getD_at xs hi] at IH
    by_cases c1 : xs[j].f0.toList = [105, 110]
    · rw [if_pos c1, if_pos (by omega), if_pos (by omega), rdI xs i hi]
      by_cases c2 : xs[j].f3 = xs[i].f3
      · rw [if_pos c2]
        rw [if_pos ⟨c1, c2⟩] at IH
        exact IH
      · rw [if_neg c2]
        rw [if_neg (fun e => c2 e.2), Nat.add_zero] at IH
        exact IH
    · rw [if_neg c1]
      rw [if_neg (fun e => c1 e.1), Nat.add_zero] at IH
      exact IH
/-- An input that stands once matters exactly if one of its bits is asked for. -/
theorem matters (xs : List INode) (hE : isE xs = true) (i : Nat) (hi : i < xs.length) (hin : xs[i].f0.toList = [105, 110]) (hu : ∀ (m : Nat) (h : m < xs.length), m ≠ i → xs[m].f0.toList = [105, 110] → xs[m].f3 ≠ xs[i].f3) :
    askAll xs i 4096 0 0 = 0 ↔ ∀ x y w : Nat, x < 64 → y < 64 → w < 64 → (if xs[i].f3 = 1 then evalE xs (x : Int) (w : Int) else evalE xs (w : Int) (y : Int)) = evalE xs (x : Int) (y : Int) := by
  obtain ⟨n1, n2, hok⟩ := isE_true hE
  have hin01 : 0 ≤ xs[i].f3 ∧ xs[i].f3 ≤ 1 := by
    rcases node_kinds (hok i hi) with ⟨_, _, h⟩ | ⟨h, _⟩ | ⟨h, _⟩ | ⟨h, _⟩
    · exact h
    · rw [hin] at h; cases h
    · rw [hin] at h; exact absurd h (by decide)
    · rw [hin] at h; exact absurd h (by decide)
  have key : ∀ x y : Nat, x < 64 → y < 64 → ∀ v : Int, chg xs (vals xs (x : Int) (y : Int)) i v = (if xs[i].f3 = 1 then evalE xs (x : Int) v else evalE xs v (y : Int)) := fun x y hx hy v =>
    chg_input xs hok n1 (x : Int) (y : Int) (values_f 101 xs hE (word_nat hx) (word_nat hy) (by omega)).2.2.1 i hi hin hu v
  have keyi : ∀ x y : Nat, rd (vals xs (x : Int) (y : Int)) (i : Int) = if xs[i].f3 = 0 then (x : Int) else (y : Int) := fun x y => by
    rw [vals_V xs hok (x : Int) (y : Int) i hi, val_in hin]
  rw [askAll_zero xs i 4096 0 0 ⟨by omega, by omega⟩]
  constructor
  · rintro ⟨_, h⟩ x y w hx hy hw
    have step : ∀ x y : Nat, x < 64 → y < 64 → ∀ c : Nat, c < 6 → (if xs[i].f3 = 1 then evalE xs (x : Int) (Go.bits .xor .i64 (if xs[i].f3 = 0 then (x : Int) else (y : Int)) (shl .i64 1 (c : Int))) else evalE xs (Go.bits .xor .i64 (if xs[i].f3 = 0 then (x : Int) else (y : Int)) (shl .i64 1 (c : Int))) (y : Int)) = evalE xs (x : Int) (y : Int) := fun x y hx hy c hc => by
      have e := h (64 * x + y) (by omega) (by omega) c hc
      rw [show (64 * x + y) / 64 = x by omega, show (64 * x + y) % 64 = y by omega, key x y hx hy, keyi] at e
      exact e
    by_cases h1 : xs[i].f3 = 1
    · rw [if_pos h1]
      have f := flips (fun v => evalE xs (x : Int) v) (fun n hn b hb => by
        have e := step x n hx hn b hb
        rw [if_pos h1, if_neg (by omega)] at e
        exact e)
      have f1 : evalE xs (x : Int) (w : Int) = evalE xs (x : Int) 0 := f w hw
      have f2 : evalE xs (x : Int) (y : Int) = evalE xs (x : Int) 0 := f y hy
      rw [f1, f2]
    · rw [if_neg h1]
      have f := flips (fun v => evalE xs v (y : Int)) (fun n hn b hb => by
        have e := step n y hn hy b hb
        rw [if_neg h1, if_pos (by omega)] at e
        exact e)
      have f1 : evalE xs (w : Int) (y : Int) = evalE xs 0 (y : Int) := f w hw
      have f2 : evalE xs (x : Int) (y : Int) = evalE xs 0 (y : Int) := f x hx
      rw [f1, f2]
  · intro h
    refine ⟨rfl, fun p p1 p2 c hc => ?_⟩
    have hx : p / 64 < 64 := by omega
    have hy : p % 64 < 64 := by omega
    rw [key _ _ hx hy, keyi]
    obtain ⟨w, hw⟩ := as_fin (xor_word (x := if xs[i].f3 = 0 then ((p / 64 : Nat) : Int) else ((p % 64 : Nat) : Int)) (y := shl .i64 1 (c : Int)) (by split <;> omega) (shl_f hc))
    rw [hw]
    exact h _ _ w.val hx hy w.isLt
theorem law_f (k : Nat) (hk : 600000 < k) (l0 l1 : List Int) (h : by8 l0) : laws_FnAskedBits.f k l0 l1 = some true := by
  unfold laws_FnAskedBits.f laws_big.f
  have hbig : ∃ b, (if (l0.length : Int) > 1048576 then some true else some (decide ((l1.length : Int) > wrap64 (1048576 - (l0.length : Int))))) = some b := by split <;> exact ⟨_, rfl⟩
  obtain ⟨b, hb⟩ := hbig
  rw [hb, Option.bind_some]
  cases b with
  | true => rw [if_pos rfl]
  | false =>
    rw [if_neg (by decide)]
    unfold spec_DrawAskedBits.f spec_newstate.f
    rw [Option.bind_some]
    dsimp only
    obtain ⟨e, a1, s1, q, q1, q2, q3⟩ := anyExpr_ok h 2 (by omega) k (by omega) 0 0 (by omega) (by omega)
    have q0 : spec_l1Cur_anyExpr.f k l0 0 0 2 = some (e, a1, s1) := q
    rw [q0, Option.bind_some]
    dsimp only
    obtain ⟨t, ht, ht2⟩ : ∃ t, spec_l1Most.f 1 (e.length : Int) = some t ∧ t ≤ 100 := by
      unfold spec_l1Most.f
      split
      · exact ⟨_, rfl, by omega⟩
      · exact ⟨_, rfl, by omega⟩
    rw [ht, Option.bind_some]
    obtain ⟨x, a2, s2, f, f1, f2, _⟩ := pick_ok h a1 s1 t (by omega) (by omega) (by omega)
    rw [f, Option.bind_some]
    dsimp only
    obtain ⟨a, a3, s3, g, g1, g2⟩ := among_ok h a2 s2 (by omega) (by omega) [0, 1, 2, wrap64 ((e.length : Int) - 1), wrap64 ((e.length : Int) - 2), x, (e.length : Int), (-1)] (by simp) (by simp)
    rw [g, Option.bind_some, Option.bind_some]
    dsimp only
    obtain ⟨r, r1, r2⟩ := askedBits_same k e a (by omega) (by omega)
    rw [r1, r2, Option.bind_some, Option.bind_some, bne_self_eq_false, if_neg (by decide), bne_self_eq_false]
    obtain ⟨k, rfl⟩ : ∃ m, k = m + 2 := ⟨k - 2, by omega⟩
    rw [show k + 2 = (k + 1) + 1 from rfl]
    simp only [laws_FnAskedBits.j0]
    rw [if_neg (by decide)]
    by_cases hr : isE e = true ∧ 0 ≤ a ∧ a < (e.length : Int)
    · obtain ⟨hE, h0, h1⟩ := hr
      obtain ⟨i, rfl⟩ : ∃ m : Nat, a = (m : Int) := ⟨a.toNat, by omega⟩
      have hi : i < e.length := by omega
      obtain ⟨n1, n2, hok⟩ := isE_true hE
      have hy := asked_yes (k + 2) e hE i hi (by omega)
      rw [r2] at hy
      obtain rfl := Option.some.inj hy
      dsimp only
      rw [if_pos rfl]
      have j1 : laws_FnAskedBits.j1 (k + 1) e (i : Int) (askAll e i 4096 0 0) false = some true := by
        simp only [laws_FnAskedBits.j1]
        rw [if_neg (by decide), if_pos (by omega), if_pos (by omega), rdI e i hi]
        by_cases hin : e[i].f0.toList = [105, 110]
        · rw [if_pos hin]
          have hin01 : 0 ≤ e[i].f3 ∧ e[i].f3 ≤ 1 := by
            rcases node_kinds (hok i hi) with ⟨_, _, hh⟩ | ⟨hh, _⟩ | ⟨hh, _⟩ | ⟨hh, _⟩
            · exact hh
            · rw [hin] at hh; cases hh
            · rw [hin] at hh; exact absurd hh (by decide)
            · rw [hin] at hh; exact absurd hh (by decide)
          refine count_loop e (by omega) i hi (askAll e i 4096 0 0) 400000 (fun k' hk' => ?_) e.length k 0 (by omega) (by omega)
          obtain ⟨b, b1, b2⟩ := dependsOn_i k' e hE e[i].f3 hin01 (by omega)
          refine ⟨b, b1, fun hc => ?_⟩
          have hu : ∀ (m : Nat) (hm : m < e.length), m ≠ i → e[m].f0.toList = [105, 110] → e[m].f3 ≠ e[i].f3 := fun m hm hne hi2 he => by
            have w1 : (e.getD m z47).f0.toList = [105, 110] ∧ (e.getD m z47).f3 = (e.getD i z47).f3 := by rw [getD_at e hm, getD_at e hi]; exact ⟨hi2, he⟩
            have w2 : (e.getD i z47).f0.toList = [105, 110] ∧ (e.getD i z47).f3 = (e.getD i z47).f3 := by rw [getD_at e hi]; exact ⟨hin, rfl⟩
            rcases Nat.lt_or_gt_of_ne hne with hlt | hgt
            · have := cntTo_two e i hlt hi w1 w2; omega
            · have := cntTo_two e i hgt hm w2 w1; omega
          have hm := matters e hE i hi hin hu
          cases b with
          | true =>
            obtain ⟨x, y, w, p1, p2, p3, p4⟩ := b2.1 rfl
            have hne : askAll e i 4096 0 0 ≠ 0 := fun h0 => p4 (hm.1 h0 x y w p1 p2 p3)
            exact (bne_iff_ne.2 hne).symm
          | false =>
            have h0 : askAll e i 4096 0 0 = 0 := hm.2 (fun x y w p1 p2 p3 => by
              refine Classical.byContradiction fun hne => ?_
              have := b2.2 ⟨x, y, w, p1, p2, p3, hne⟩
              cases this)
            rw [h0]
            rfl
        · rw [if_neg hin]
      by_cases hl : (i : Int) = wrap64 ((e.length : Int) - 1)
      · rw [if_pos hl]
        have hw : wrap64 ((e.length : Int) - 1) = (e.length : Int) - 1 := wrap64_small (by omega) (by omega)
        have hie : i = e.length - 1 := by omega
        have h63 : askAll e i 4096 0 0 = 63 := by rw [hie]; exact askAll_root e hE
        rw [show (askAll e i 4096 0 0 != 63) = false by rw [h63]; rfl]
        exact j1
      · rw [if_neg hl]
        exact j1
    · have hy := asked_no (k + 2) e a (by omega) (by omega) hr
      rw [r2] at hy
      obtain rfl := Option.some.inj hy
      rw [if_neg (by decide)]
theorem fnAskedBits_pure : laws_FnAskedBits.Pure := fun l0 l1 _ _ h0 _ _ _ => ⟨1000000, law_f 1000000 (by omega) l0 l1 (fun x hx => by
  have := h0 x hx
  unfold Lit.wf at this
  simp at this
  have e1 : IntKind.u8.min = 0 := rfl
  have e2 : IntKind.u8.max = 255 := rfl
  omega)⟩
end Go.Proofs.Ytlcplhcccgbmnaa.PureOps
