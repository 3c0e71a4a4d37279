/- ExpandExpr of the program and of the reference agree for all arguments; what comes back lies in memory of its own. -/
import Derived.Test.YtecmlikhmkcdpaaXPureIsExpr0
import Derived.Test.YtecmlikhmkcdpaaXPureMarksN
import Derived.Test.YtecmlikhmkcdpaaELawsFnExactExpandExpr
namespace Go.Proofs.Ytecmlikhmkcdpaa.PureOps
open Go.RowKit Go.Proofs.Ytecmlikhmkcdpaa.E Go.Proofs.YtecmlikhmkcdpaaW.PrintWords Go.Proofs.YtecmlikhmkcdpaaW.PrintLast Go.Proofs.YtecmlikhmkcdpaaW.PrintMore Go.Proofs.Ytecmlikhmkcdpaa.MKinds
set_option linter.unusedVariables false
set_option linter.unusedSimpArgs false
/-- What both sides have built behind a node: the same list, or both too many. -/
def grown (i : Nat) (R : List INode) (a : Int) (R' : List INode) : Prop := ((R' = R ∧ a = (R.length : Int) - 1 ∧ 1 ≤ R.length ∧ R.length ≤ 24) ∨ (24 < R.length ∧ 24 < R'.length)) ∧ R.length ≤ 25 ∧ R'.length ≤ 25 + i
theorem grow_put (i : Nat) (X : INode) (out : List INode) (x y : Int) (h : out.length ≤ 24) : grown i (out ++ [⟨X.f0, x, y, X.f3⟩]) (out.length : Int) (out ++ [⟨X.f0, x, y, X.f3⟩]) := by
  have hl : (out ++ [(⟨X.f0, x, y, X.f3⟩ : INode)]).length = out.length + 1 := by simp
  unfold grown
  rw [hl]
  refine ⟨?_, by omega, by omega⟩
  by_cases h24 : out.length + 1 ≤ 24
  · exact .inl ⟨rfl, by omega, by omega, h24⟩
  · exact .inr ⟨by omega, by omega⟩
theorem walk_many (k : Nat) (xs : List INode) (p : Nat) (hp : p < xs.length) (out : List INode) (h : 24 < out.length) : exb_walk.f (k + 1) xs (p : Int) out = some (0, out) := by
  simp only [exb_walk.f]
  rw [if_pos (by omega), if_pos (by omega), if_pos (by omega)]
theorem grow_end (k : Nat) (out xs : List INode) (own : List Int) (ho : own.length = 2) (ps : List Int) (j : Nat) (hj : ¬ j < ps.length) (h : out.length ≤ 24) (X : INode) : impl_grow.l0 (k + 1) out xs own ps (ps.length : Int) (j : Int) X.f0 X.f1 X.f2 X.f3 = some (out ++ [⟨X.f0, rd own 0, rd own 1, X.f3⟩]) := by
  simp only [impl_grow.l0]
  rw [if_neg (by omega), if_pos (by omega), if_pos (by omega), if_pos (by omega)]
theorem grow_round (k : Nat) (out xs : List INode) (own : List Int) (ho : own.length = 2) (ps : List Int) (hp : ps.length ≤ 2) (j : Nat) (hj : j < ps.length) (R : List INode) (hR : impl_grow.f k out xs ps[j] = some R) (hl : R.length ≤ 25) (X : INode) :
    impl_grow.l0 (k + 1) out xs own ps (ps.length : Int) (j : Int) X.f0 X.f1 X.f2 X.f3 = if 24 < R.length then some R else impl_grow.l0 k R xs (own.set j ((R.length : Int) - 1)) ps (ps.length : Int) ((j + 1 : Nat) : Int) X.f0 X.f1 X.f2 X.f3 := by
  simp only [impl_grow.l0]
  rw [if_pos (by omega), if_pos (by omega), if_pos (by omega), rd_get ps j hj, hR, Option.bind_some]
  by_cases h : 24 < R.length
  · rw [if_pos (by omega), if_pos h]
  · rw [if_neg (by omega), if_neg h, if_pos (by omega), Int.toNat_natCast, wrap64_small (by omega) (by omega), wrapS hj (by omega)]
theorem grow_main (xs : List INode) (hok : okAll xs) (hn : xs.length ≤ 24) (i : Nat) : ∀ (k1 k2 : Nat) (out : List INode), i < xs.length → out.length ≤ 24 → i + 14 < k1 → 4 * i + 30 < k2 →
    ∃ R a R', impl_grow.f k2 out xs (i : Int) = some R ∧ exb_walk.f k1 xs (i : Int) out = some (a, R') ∧ grown i R a R' := by
  induction i using Nat.strongRecOn with
  | _ i ih =>
    intro k1 k2 out hi ho h1 h2
    obtain ⟨k1, rfl⟩ : ∃ q, k1 = q + 1 := ⟨k1 - 1, by omega⟩
    obtain ⟨k2, rfl⟩ : ∃ q, k2 = q + 4 := ⟨k2 - 4, by omega⟩
    have hnode := hok i hi
    have hlt := parts_lt hnode
    have hl2 := parts_len xs[i].f0.toList xs[i].f1 xs[i].f2
    have eG : impl_grow.f (k2 + 4) out xs (i : Int) = impl_grow.l0 (k2 + 3) out xs [0, 0] (parts xs[i].f0.toList xs[i].f1 xs[i].f2) ((parts xs[i].f0.toList xs[i].f1 xs[i].f2).length : Int) ((0 : Nat) : Int) xs[i].f0 xs[i].f1 xs[i].f2 xs[i].f3 := by
      rw [show k2 + 4 = (k2 + 3) + 1 from rfl]
      simp only [impl_grow.f]
      rw [if_pos (by omega), if_pos (by omega), rdI xs i hi, of_f (k2 + 3) (by omega), Option.bind_some]
      rfl
    have eW : exb_walk.f (k1 + 1) xs (i : Int) out = ((if 0 < (parts xs[i].f0.toList xs[i].f1 xs[i].f2).length then exb_walk.f k1 xs xs[i].f1 out else some (0, out)).bind fun a => (if 1 < (parts xs[i].f0.toList xs[i].f1 xs[i].f2).length then exb_walk.f k1 xs xs[i].f2 a.2 else some (0, a.2)).bind fun b =>
        if b.2.length < 1000 then some ((b.2.length : Int), b.2 ++ [⟨xs[i].f0, a.1, b.1, xs[i].f3⟩]) else none) := by
      simp only [exb_walk.f]
      rw [if_pos (by omega), if_pos (by omega), if_neg (by omega), rdI xs i hi, exParts_f k1 (by omega), Option.bind_some]
    rw [eG, eW]
    clear eG eW
    generalize hX : xs[i] = X at hlt hl2 ⊢
    unfold parts at hlt hl2 ⊢
    by_cases c1 : one X.f0.toList = true
    · rw [if_pos c1] at hlt hl2 ⊢
      have hp := hlt X.f1 (by simp)
      obtain ⟨p, hpe⟩ : ∃ p : Nat, X.f1 = (p : Int) := ⟨X.f1.toNat, by omega⟩
      have hpi : p < i := by omega
      obtain ⟨R1, a1, R1', g1, w1, e1, b1, b1'⟩ := ih p hpi k1 (k2 + 2) out (by omega) ho (by omega) (by omega)
      rw [← hpe] at g1 w1
      rw [grow_round (k2 + 2) out xs [0, 0] rfl [X.f1] (by simp) 0 (by simp) R1 (by simpa using g1) b1 X]
      simp only [List.length_singleton, Nat.lt_irrefl, if_false, Nat.zero_lt_one, if_true, w1, Option.bind_some]
      rcases e1 with ⟨e1, e2, e3, e4⟩ | ⟨e1, e2⟩
      · subst e1
        have ge := grow_end (k2 + 1) R1' xs (List.set [0, 0] 0 ((R1'.length : Int) - 1)) (by simp) [X.f1] 1 (by simp) e4 X
        rw [if_neg (by omega), if_pos (by show R1'.length < 1000; omega)]
        refine ⟨_, _, _, ge, rfl, ?_⟩
        rw [e2]
        exact grow_put i X R1' _ _ e4
      · rw [if_pos e1, if_pos (by show R1'.length < 1000; omega)]
        exact ⟨_, _, _, rfl, rfl, .inr ⟨e1, by simp; omega⟩, b1, by simp; omega⟩
    · rw [if_neg c1] at hlt hl2 ⊢
      by_cases c2 : two X.f0.toList = true
      · rw [if_pos c2] at hlt hl2 ⊢
        have hp := hlt X.f1 (by simp)
        have hq := hlt X.f2 (by simp)
        obtain ⟨p, hpe⟩ : ∃ p : Nat, X.f1 = (p : Int) := ⟨X.f1.toNat, by omega⟩
        obtain ⟨q, hqe⟩ : ∃ q : Nat, X.f2 = (q : Int) := ⟨X.f2.toNat, by omega⟩
        have hpi : p < i := by omega
        have hqi : q < i := by omega
        obtain ⟨R1, a1, R1', g1, w1, e1, b1, b1'⟩ := ih p hpi k1 (k2 + 2) out (by omega) ho (by omega) (by omega)
        rw [← hpe] at g1 w1
        rw [grow_round (k2 + 2) out xs [0, 0] rfl [X.f1, X.f2] (by simp) 0 (by simp) R1 (by simpa using g1) b1 X]
        simp only [List.length_cons, List.length_nil, Nat.reduceAdd, show (0 : Nat) < 2 by omega, show (1 : Nat) < 2 by omega, if_true, w1, Option.bind_some]
        rcases e1 with ⟨e1, e2, e3, e4⟩ | ⟨e1, e2⟩
        · subst e1
          obtain ⟨R2, a2, R2', g2, w2, e5, b2, b2'⟩ := ih q hqi k1 (k2 + 1) R1' (by omega) e4 (by omega) (by omega)
          rw [← hqe] at g2 w2
          have gr := grow_round (k2 + 1) R1' xs (List.set [0, 0] 0 ((R1'.length : Int) - 1)) (by simp) [X.f1, X.f2] (by simp) 1 (by simp) R2 (by simpa using g2) b2 X
          rw [if_neg (by omega), w2, Option.bind_some]
          rcases e5 with ⟨e5, e6, e7, e8⟩ | ⟨e5, e6⟩
          · subst e5
            rw [if_neg (by omega), show ((1 + 1 : Nat) : Int) = ((2 : Nat) : Int) from rfl, grow_end k2 R2' xs _ (by simp) [X.f1, X.f2] 2 (by simp) e8 X] at gr
            rw [if_pos (by show R2'.length < 1000; omega)]
            refine ⟨_, _, _, gr, rfl, ?_⟩
            rw [e2, e6]
            exact grow_put i X R2' _ _ e8
          · rw [if_pos e5] at gr
            rw [if_pos (by show R2'.length < 1000; omega)]
            exact ⟨_, _, _, gr, rfl, .inr ⟨e5, by simp; omega⟩, b2, by simp; omega⟩
        · obtain ⟨k1, rfl⟩ : ∃ z, k1 = z + 1 := ⟨k1 - 1, by omega⟩
          have w2 := walk_many k1 xs q (by omega) R1' e2
          rw [← hqe] at w2
          rw [if_pos e1, w2, Option.bind_some, if_pos (by show R1'.length < 1000; omega)]
          exact ⟨_, _, _, rfl, rfl, .inr ⟨e1, by simp; omega⟩, b1, by simp; omega⟩
      · rw [if_neg c2] at hlt hl2 ⊢
        simp only [List.length_nil, Nat.lt_irrefl, if_false, Option.bind_some, show ¬ (1 < 0) by omega]
        rw [show ((0 : Nat) : Int) = (([] : List Int).length : Int) from rfl, show ((([] : List Int).length : Nat) : Int) = ((0 : Nat) : Int) from rfl]
        have := grow_end (k2 + 2) out xs [0, 0] rfl [] 0 (by simp) ho X
        rw [show ((([] : List Int).length : Nat) : Int) = ((0 : Nat) : Int) from rfl] at this
        rw [this, if_pos (by omega)]
        exact ⟨_, _, _, rfl, rfl, grow_put i X out _ _ ho⟩
theorem expand_same (k : Nat) (xs : List INode) (hk : 4 * xs.length + 200 < k) (hn : xs.length ≤ 1048576) : ∃ q, spec_ExpandExpr.f k xs = some q ∧ impl_ExpandExpr.f k xs = some q ∧ q.1.length ≤ 24 := by
  unfold spec_ExpandExpr.f impl_ExpandExpr.f
  rw [good_f k xs (by omega) hn, isExpr_f k xs (by omega) hn, Option.bind_some, Option.bind_some]
  by_cases h : isE xs = true
  · obtain ⟨n1, n2, hok⟩ := isE_true h
    rw [if_pos h, if_pos h]
    have hw : wrap64 ((xs.length : Int) - 1) = ((xs.length - 1 : Nat) : Int) := by rw [wrap64_small (by omega) (by omega)]; omega
    obtain ⟨R, a, R', g, w, e, b, b'⟩ := grow_main xs hok n2 (xs.length - 1) k k [] (by omega) (by simp) (by omega) (by omega)
    rw [hw, g, w, Option.bind_some, Option.bind_some]
    rcases e with ⟨e1, e2, e3, e4⟩ | ⟨e1, e2⟩
    · subst e1
      refine ⟨(R', true), ?_, ?_, e4⟩
      · rw [if_neg (by show ¬ (R'.length : Int) > 24; omega)]
      · rw [if_neg (by omega)]
    · refine ⟨([], false), ?_, ?_, by simp⟩
      · rw [if_pos (by show (R'.length : Int) > 24; omega)]
      · rw [if_pos (by omega)]
  · rw [if_neg h, if_neg h]
    exact ⟨([], false), rfl, rfl, by simp⟩
theorem expandExpr_true (xs : List LNode) (hn : xs.length ≤ 9223372036854775807) (hs : ∀ x ∈ xs, x.f0.size ≤ 9223372036854775807) : laws_FnExactExpandExpr.f (4 * xs.length + 900) xs = some true := by
  unfold laws_FnExactExpandExpr.f
  obtain ⟨r, hr, _, hl⟩ := szNodeS_f (4 * xs.length + 900) xs 1048576 (by omega) (by omega) hn hs (by omega)
  rw [hr, Option.bind_some]
  by_cases h : r < 0
  · rw [if_pos h]
  · rw [if_neg h]
    have hn2 : xs.length ≤ 1048576 := by have := hl (by omega); omega
    have hn3 : (xs.map convN).length ≤ 1048576 := by simpa using hn2
    have hm : (xs.map convN).length = xs.length := List.length_map ..
    obtain ⟨q, h1, h2, h3⟩ := expand_same (4 * xs.length + 900) (xs.map convN) (by omega) hn3
    obtain ⟨q', g1, g2, _⟩ := expand_same (4 * xs.length + 898) (xs.map convN) (by omega) hn3
    have hqq : q' = q := by
      have e1 := impl_ExpandExpr.mono (xs.map convN) (4 * xs.length + 898) _ g2
      have e2 := impl_ExpandExpr.mono (xs.map convN) (4 * xs.length + 899) _ e1
      exact Option.some.inj (e2.symm.trans h2)
    rw [hqq] at g2
    obtain ⟨l', b'⟩ := q
    have h3 : l'.length ≤ 24 := h3
    have m1 := markNodeS_m (4 * xs.length + 899) (xs.map convN) 1 (by omega) (by omega) hn3 (by omega)
    have y1 := markNodeS_m (4 * xs.length + 898) l' 1 (by omega) (by omega) (by omega) (by omega)
    have y2 : ∀ k, 100 < k → laws_heldNodeS.f k (marks 1 l'.length) 1 = some (1 + 4 * (l'.length : Int)) := fun k hk => heldNodeS_m k l'.length (by omega) (by omega)
    have j2 : laws_FnExactExpandExpr.j2 (4 * xs.length + 898) (marks 1 l'.length) (1 + 4 * (l'.length : Int)) false = some true := by
      rw [show 4 * xs.length + 898 = (4 * xs.length + 897) + 1 by omega]
      simp only [laws_FnExactExpandExpr.j2]
      rw [if_neg (by decide), y2 _ (by omega), Option.bind_some, if_neg (by omega), if_pos rfl]
    have j1 : laws_FnExactExpandExpr.j1 (4 * xs.length + 899) xs l' b' l' false = some true := by
      rw [show 4 * xs.length + 899 = (4 * xs.length + 898) + 1 by omega]
      simp only [laws_FnExactExpandExpr.j1]
      rw [if_neg (by decide), y1, Option.bind_some]
      dsimp only
      rw [y2 _ (by omega), Option.bind_some, if_neg (by omega), if_pos rfl, toNodeS_f _ xs hn2 (by omega), Option.bind_some, g2, Option.bind_some]
      dsimp only
      rw [eqNodeS_f _ l' (by omega) (by omega), Option.bind_some, if_pos rfl, bne_self_eq_false]
      exact j2
    have j0 : laws_FnExactExpandExpr.j0 (4 * xs.length + 900) xs l' b' (xs.map convN) l' b' false = some true := by
      rw [show 4 * xs.length + 900 = (4 * xs.length + 899) + 1 by omega]
      simp only [laws_FnExactExpandExpr.j0]
      rw [if_neg (by decide), toNodeS_f (4 * xs.length + 899) xs hn2 (by omega), Option.bind_some, eqNodeS_f (4 * xs.length + 899) (xs.map convN) hn3 (by omega), Option.bind_some, if_pos rfl, m1, Option.bind_some, if_neg (by omega), eqNodeS_f _ l' (by omega) (by omega), Option.bind_some, if_pos rfl, bne_self_eq_false]
      exact j1
    rw [toNodeS_f (4 * xs.length + 900) xs hn2 (by omega)]
    simp only [Option.bind_some, h1, h2]
    rw [eqNodeS_f _ l' (by omega) (by omega), Option.bind_some, if_pos rfl, bne_self_eq_false]
    exact j0
theorem expandExpr_walk (A : Option Addr) (c : Nat) (xs : List LNode) (hl0 : xs.length ≤ c) (W : World) (hr0 : Kd.C k74 W A xs.length xs) (hm0 : xs.length ≤ maxLen) (ho0 : ∀ x ∈ xs, nodeSOk x) :
    Calls Try.prog 4 #[.slice A xs.length c] W fun e w' => e = .returned (.bool true) ∧ Below W.heap.size W w' :=
  laws_FnExactExpandExpr.calls (4 * xs.length + 900) A c xs true W hr0 hl0 (expandExpr_true xs (len_ok hm0) (nodes_ok ho0)) rfl
end Go.Proofs.Ytecmlikhmkcdpaa.PureOps
