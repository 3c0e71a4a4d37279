/- What folding gives: an expression with the same values; folding twice changes nothing; ops, inputs, depths. Plain. -/
import Derived.Test.YtlcplhcccgbmnaaUFold
import Derived.Test.YtlcplhcccgbmnaaUPureCountOps
import Derived.Test.YtlcplhcccgbmnaaUPureInputsOf
import Derived.Test.YtlcplhcccgbmnaaUPureDepthOf
namespace Go.Proofs.Ytlcplhcccgbmnaa.PureOps
open Go.RowKit Go.Proofs.Ytlcplhcccgbmnaa.D Go.Proofs.YtlcplhcccgbmnaaW.PrintWords Go.Proofs.YtlcplhcccgbmnaaW.PrintLast Go.Proofs.YtlcplhcccgbmnaaW.PrintMore
set_option linter.unusedVariables false
set_option linter.unusedSimpArgs false
section
variable {xs : List INode} {N : List Bool} {P : List Int} {out : List INode}
theorem kept_at (h : kInv xs N xs.length P out) (j : Nat) (hj : j < xs.length) (hk : kept N j) : ∃ (q : Nat) (hq : q < out.length), rd P (j : Int) = (q : Int) ∧ out[q] = moved xs[j] P := by
  obtain ⟨_, h5, _⟩ := h
  obtain ⟨g0, g1, g2⟩ := h5 j hj hj hk
  refine ⟨(rd P (j : Int)).toNat, by omega, by omega, ?_⟩
  rw [← getD_at out (by omega)]
  exact g2
theorem kept_from (h : kInv xs N xs.length P out) (q : Nat) (hq : q < out.length) : ∃ (j : Nat) (hj : j < xs.length), kept N j ∧ rd P (j : Int) = (q : Int) ∧ out[q] = moved xs[j] P := by
  obtain ⟨j, hj, _, g1, g2⟩ := h.2.2.1 q hq
  obtain ⟨q', hq', e, em⟩ := kept_at h j hj g1
  obtain rfl : q' = q := by omega
  exact ⟨j, hj, g1, g2, em⟩
theorem kept_parts (hok : okAll xs) (hN : marked xs 0 N) (j : Nat) (hj : j < xs.length) (hk : kept N j) (p : Int) (hp : p ∈ partsOf xs[j]) : ∃ q : Nat, p = (q : Int) ∧ q < j ∧ kept N q := by
  have hb := parts_lt (hok j hj) p hp
  obtain ⟨q, rfl⟩ : ∃ q : Nat, p = (q : Int) := ⟨p.toNat, by omega⟩
  exact ⟨q, rfl, by omega, hN.2.2.1 j hj (Nat.zero_le _) hk _ hp⟩
theorem kept_vals (hok : okAll xs) (hN : marked xs 0 N) (h : kInv xs N xs.length P out) (x y : Int) (j : Nat) : ∀ (hj : j < xs.length), kept N j → rd (vals out x y) (rd P (j : Int)) = rd (vals xs x y) (j : Int) := by
  induction j using Nat.strongRecOn with
  | _ j ih =>
    intro hj hk
    obtain ⟨q, hq, e, em⟩ := kept_at h j hj hk
    have hoo : okAll out := h.1.2.2.1
    have hrec : ∀ p ∈ partsOf xs[j], rd (vals out x y) (rd P p) = rd (vals xs x y) p := fun p hp => by
      obtain ⟨m, rfl, hm, hmk⟩ := kept_parts hok hN j hj hk p hp
      exact ih m hm (by omega) hmk
    rw [e, vals_V out hoo x y q hq, vals_V xs hok x y j hj, em]
    have hf0 := moved_isC xs[j] P
    rcases moved_kinds (hok j hj) P with ⟨h1, e1⟩ | ⟨hl, h1, e1, _⟩ | ⟨hl, h1, h2, e1, _⟩
    · rcases node_kinds (hok j hj) with ⟨g1, _, _⟩ | ⟨g1, _⟩ | ⟨g1, _⟩ | ⟨g1, _⟩
      · rw [val_in g1, val_in (by rw [hf0]; exact g1), e1]
      · rw [val_const g1, val_const (by rw [hf0]; exact g1), e1]
      · rw [h1] at g1; cases g1
      · rw [h1] at g1; cases g1
    · rw [val_op hl, val_op (by rw [hf0]; exact hl)]
      unfold opV
      rw [hf0, if_pos h1, if_pos h1, e1]
      show app xs[j].f0 (rd (vals out x y) (rd P xs[j].f1)) 0 = _
      rw [hrec _ (parts_mem_one h1)]
    · rw [val_op hl, val_op (by rw [hf0]; exact hl)]
      unfold opV
      rw [hf0, h1, if_neg (by decide), if_neg (by decide), e1]
      show app xs[j].f0 (rd (vals out x y) (rd P xs[j].f1)) (rd (vals out x y) (rd P xs[j].f2)) = _
      rw [hrec _ (parts_mem_two h2).1, hrec _ (parts_mem_two h2).2]
theorem kept_root (h1 : 1 ≤ xs.length) (hN : marked xs 0 N) (h : kInv xs N xs.length P out) : rd P ((xs.length - 1 : Nat) : Int) = (out.length : Int) - 1 ∧ 1 ≤ out.length := by
  have hk : kept N (xs.length - 1) := hN.2.1
  have e := h.2.2.2.2 h1 hk
  obtain ⟨q, hq, _⟩ := kept_at h (xs.length - 1) (by omega) hk
  exact ⟨e, by omega⟩
theorem kept_isE (hok : okAll xs) (h1 : 1 ≤ xs.length) (h24 : xs.length ≤ 24) (hN : marked xs 0 N) (h : kInv xs N xs.length P out) : isE out = true := by
  obtain ⟨hr, ho⟩ := kept_root h1 hN h
  refine isE_mk ho (by have := h.1.2.1; omega) h.1.2.2.1 (fun q hq => ?_)
  obtain ⟨j, hj, hk, e, em⟩ := kept_from h q (by omega)
  have hjn : j ≠ xs.length - 1 := fun ej => by rw [ej] at e; omega
  obtain ⟨i, hi, hik, hp⟩ := hN.2.2.2 j (by omega) hk
  obtain ⟨q', hq', e', em'⟩ := kept_at h i hi hik
  refine ⟨out[q'], List.getElem_mem hq', ?_⟩
  have := moved_parts (hok i hi) P hp
  rw [e, ← em'] at this
  exact this
theorem kept_eval (hok : okAll xs) (h1 : 1 ≤ xs.length) (hN : marked xs 0 N) (h : kInv xs N xs.length P out) (x y : Int) : evalE out x y = evalE xs x y := by
  obtain ⟨hr, ho⟩ := kept_root h1 hN h
  have hv := kept_vals hok hN h x y (xs.length - 1) (by omega) hN.2.1
  rw [hr, show (out.length : Int) - 1 = ((out.length - 1 : Nat) : Int) by omega] at hv
  exact hv
theorem kept_noFold (hok : okAll xs) (hN : marked xs 0 N) (h : kInv xs N xs.length P out) (hf : ∀ (j : Nat) (hj : j < xs.length), ¬ foldable xs xs[j]) (q : Nat) (hq : q < out.length) : ¬ foldable out out[q] := by
  obtain ⟨j, hj, hk, e, em⟩ := kept_from h q hq
  rw [em]
  have hf0 := moved_isC xs[j] P
  have hc : ∀ p ∈ partsOf xs[j], isC (ndAt out (rd P p)) = isC (ndAt xs p) := fun p hp => by
    obtain ⟨m, rfl, hm, hmk⟩ := kept_parts hok hN j hj hk p hp
    obtain ⟨q', hq', e', em'⟩ := kept_at h m (by omega) hmk
    rw [e', nd_at out q' hq', nd_at xs m (by omega), em']
    unfold isC
    rw [moved_isC]
  intro hfo
  refine hf j hj ?_
  unfold foldable at hfo ⊢
  rw [hf0] at hfo
  rcases moved_kinds (hok j hj) P with ⟨h1, e1⟩ | ⟨hl, h1, e1, _⟩ | ⟨hl, h1, h2, e1, _⟩
  · obtain ⟨a, b⟩ := leaf_not h1
    rcases hfo with ⟨g, _⟩ | ⟨g, _⟩
    · rw [a] at g; cases g
    · rw [b] at g; cases g
  · rcases hfo with ⟨_, g⟩ | ⟨g, _⟩
    · rw [e1] at g
      exact .inl ⟨h1, by rw [← hc _ (parts_mem_one h1)]; exact g⟩
    · rw [(one_not h1).2] at g; cases g
  · rcases hfo with ⟨g, _⟩ | ⟨_, g1, g2⟩
    · rw [h1] at g; cases g
    · rw [e1] at g1 g2
      exact .inr ⟨h2, by rw [← hc _ (parts_mem_two h2).1]; exact g1, by rw [← hc _ (parts_mem_two h2).2]; exact g2⟩
end
theorem moved_id {n : INode} {i : Int} (hok : nodeOk n.f0.toList n.f1 n.f2 n.f3 i = true) {P : List Int} (h : ∀ p ∈ partsOf n, rd P p = p) : moved n P = n := by
  obtain ⟨o, a, b, v⟩ := n
  unfold nodeOk at hok
  unfold moved
  by_cases hl : leaf o.toList = true
  · rw [if_pos hl] at hok
    simp only [Bool.and_eq_true, beq_iff_eq] at hok
    obtain ⟨h1, h2⟩ := leaf_not hl
    show (if one o.toList = true then _ else if two o.toList = true then _ else _) = _
    rw [h1, if_neg (by decide), h2, if_neg (by decide), hok.1.1, hok.1.2]
  · rw [if_neg hl] at hok
    by_cases h1 : one o.toList = true
    · rw [if_pos h1] at hok
      simp only [Bool.and_eq_true, beq_iff_eq] at hok
      show (if one o.toList = true then _ else _) = _
      rw [if_pos h1]
      have := h _ (parts_mem_one (n := ⟨o, a, b, v⟩) h1)
      show (⟨o, rd P a, 0, v⟩ : INode) = _
      rw [this, hok.1.2]
    · rw [if_neg h1] at hok
      simp only [Bool.and_eq_true] at hok
      have h2 : two o.toList = true := hok.1.1.1
      show (if one o.toList = true then _ else if two o.toList = true then _ else _) = _
      rw [if_neg h1, if_pos h2]
      have := h _ (parts_mem_two (n := ⟨o, a, b, v⟩) h2).1
      have t := h _ (parts_mem_two (n := ⟨o, a, b, v⟩) h2).2
      show (⟨o, rd P a, rd P b, v⟩ : INode) = _
      rw [this, t]
def noFold (xs : List INode) : Prop := ∀ (j : Nat) (hj : j < xs.length), ¬ foldable xs xs[j]
theorem all_kept {xs : List INode} {N : List Bool} (hE : isE xs = true) (hN : marked xs 0 N) (d : Nat) : ∀ j : Nat, j + d = xs.length - 1 → kept N j := by
  obtain ⟨n1, n2, hok⟩ := isE_true hE
  induction d using Nat.strongRecOn with
  | _ d ih =>
    intro j hj
    by_cases e : d = 0
    · obtain rfl : j = xs.length - 1 := by omega
      exact hN.2.1
    · obtain ⟨n, hn, hp⟩ := isE_used hE j (by omega)
      obtain ⟨i, hi, rfl⟩ := List.mem_iff_getElem.1 hn
      have hb := parts_lt (hok i hi) _ hp
      have hk := ih (xs.length - 1 - i) (by omega) i (by omega)
      exact hN.2.2.1 i hi (Nat.zero_le _) hk _ hp
theorem kept_same {xs : List INode} {N : List Bool} {P : List Int} {out : List INode} (hE : isE xs = true) (hN : marked xs 0 N) (h : kInv xs N xs.length P out) : out = xs := by
  obtain ⟨n1, n2, hok⟩ := isE_true hE
  have hk : ∀ j : Nat, j < xs.length → kept N j := fun j hj => all_kept hE hN (xs.length - 1 - j) j (by omega)
  obtain ⟨hr, ho⟩ := kept_root n1 hN h
  have hol := h.1.2.1
  have hup : ∀ j : Nat, j < xs.length → (j : Int) ≤ rd P (j : Int) := by
    intro j
    induction j with
    | zero => intro hj; exact (h.2.1 0 hj hj (hk 0 hj)).1
    | succ j ih =>
      intro hj
      have h1 := ih (by omega)
      have h2 := h.2.2.2.1 j (j + 1) (by omega) hj (hk j (by omega)) (hk (j + 1) hj)
      omega
  have hdn : ∀ d j : Nat, j + d = xs.length - 1 → rd P (j : Int) ≤ (j : Int) := by
    intro d
    induction d with
    | zero => intro j hj; obtain rfl : j = xs.length - 1 := by omega
              rw [hr]; omega
    | succ d ih =>
      intro j hj
      have h1 := ih (j + 1) (by omega)
      have h2 := h.2.2.2.1 j (j + 1) (by omega) (by omega) (hk j (by omega)) (hk (j + 1) (by omega))
      omega
  have hP : ∀ j : Nat, j < xs.length → rd P (j : Int) = (j : Int) := fun j hj => by
    have h1 := hup j hj
    have h2 := hdn (xs.length - 1 - j) j (by omega)
    omega
  have hl : out.length = xs.length := by
    have := hP (xs.length - 1) (by omega)
    omega
  apply List.ext_getElem hl
  intro j h1 h2
  obtain ⟨q, hq, e, em⟩ := kept_at h j h2 (hk j h2)
  rw [hP j h2] at e
  obtain rfl : j = q := by omega
  rw [em]
  refine moved_id (hok j h2) (fun p hp => ?_)
  obtain ⟨m, rfl, hm, _⟩ := kept_parts hok hN j h2 (hk j h2) p hp
  exact hP m (by omega)
theorem foldFrom_same (xs : List INode) (hf : noFold xs) (d : Nat) : ∀ i, i + d = xs.length → foldFrom d i xs = xs := by
  induction d with
  | zero => intro i _; rfl
  | succ d ih =>
    intro i h
    have e : foldAt xs i = xs := by
      rcases foldAt_kinds xs i (by omega) with ⟨e, _⟩ | ⟨v, _, hfo, _⟩
      · exact e
      · exact absurd hfo (hf i (by omega))
    show foldFrom d (i + 1) (foldAt xs i) = xs
    rw [e]
    exact ih (i + 1) (by omega)
theorem foldLoop (d : Nat) : ∀ (k i : Nat) (s : List INode), okAll s → 1 ≤ s.length → s.length ≤ 24 → i + d = s.length → 6 * d + 500 < k →
    ∃ k', 450 < k' ∧ impl_fold.l0 k s (s.length : Int) (i : Int) = impl_kept.f k' (foldFrom d i s) ((s.length - 1 : Nat) : Int) := by
  induction d with
  | zero =>
    intro k i s hok n1 n2 h hk
    obtain ⟨k, rfl⟩ : ∃ m, k = m + 1 := ⟨k - 1, by omega⟩
    have hw : wrap64 ((s.length : Int) - 1) = ((s.length - 1 : Nat) : Int) := by rw [wrap64_small (by omega) (by omega)]; omega
    refine ⟨k, by omega, ?_⟩
    simp only [impl_fold.l0]
    rw [if_neg (by omega), hw]
    show (impl_kept.f k s ((s.length - 1 : Nat) : Int)).bind (fun t => some t) = impl_kept.f k s ((s.length - 1 : Nat) : Int)
    generalize impl_kept.f k s ((s.length - 1 : Nat) : Int) = z
    cases z <;> rfl
  | succ d ih =>
    intro k i s hok n1 n2 h hk
    obtain ⟨q1, q2, a1, a2, a3, a4⟩ := foldStep s hok n2 i (by omega) k k (by omega) (by omega)
    have hl := foldAt_length s i
    obtain ⟨k', hk', e⟩ := ih q2 (i + 1) (foldAt s i) (foldAt_ok s hok i) (by omega) (by omega) (by omega) (by omega)
    rw [hl] at e
    exact ⟨k', hk', a4.trans e⟩
theorem fold_i (k : Nat) (xs : List INode) (hE : isE xs = true) (hk : 1000 < k) : ∃ k', 450 < k' ∧ impl_FoldExpr.f k xs = (impl_kept.f k' (foldFrom xs.length 0 xs) ((xs.length - 1 : Nat) : Int)).bind (fun r => some (r, true)) := by
  obtain ⟨n1, n2, hok⟩ := isE_true hE
  obtain ⟨k', hk', e⟩ := foldLoop xs.length k 0 xs hok n1 n2 (by omega) (by omega)
  refine ⟨k', hk', ?_⟩
  have c2 : impl_fold.f k xs = impl_kept.f k' (foldFrom xs.length 0 xs) ((xs.length - 1 : Nat) : Int) := by
    unfold impl_fold.f impl_Node_58.f
    rw [Option.bind_some, if_pos (by simp; omega), List.nil_append, Option.bind_some]
    exact e
  unfold impl_FoldExpr.f
  rw [isExpr_f k xs (by omega) (by omega), Option.bind_some, if_pos hE, c2]
theorem fold_sem (k : Nat) (xs : List INode) (hE : isE xs = true) (hk : 1000 < k) : ∃ out, impl_FoldExpr.f k xs = some (out, true) ∧ isE out = true ∧ (∀ x y, evalE out x y = evalE xs x y) ∧ nOps out ≤ nOps xs ∧ noFold out := by
  obtain ⟨n1, n2, hok⟩ := isE_true hE
  obtain ⟨k', hk', e⟩ := fold_i k xs hE hk
  obtain ⟨f1, f2, f3, f4, f5⟩ := foldFrom_spec xs.length 0 xs hok (by omega) (fun j hj h => by omega)
  obtain ⟨N, P, out, g1, g2, g3⟩ := kept_sem k' (foldFrom xs.length 0 xs) f2 (by omega) (by omega) (by omega)
  rw [f1] at g1
  refine ⟨out, by rw [e, g1, Option.bind_some], kept_isE f2 (by omega) (by omega) g2 g3, fun x y => ?_, ?_, kept_noFold f2 g2 g3 f4⟩
  · rw [kept_eval f2 (by omega) g2 g3 x y]
    unfold evalE
    rw [f1, f3 x y _ (by omega)]
  · have := g3.1.2.2.2
    rw [List.take_length] at this
    exact Nat.le_trans this f5
theorem fold_fix (k : Nat) (xs : List INode) (hE : isE xs = true) (hf : noFold xs) (hk : 1000 < k) : impl_FoldExpr.f k xs = some (xs, true) := by
  obtain ⟨n1, n2, hok⟩ := isE_true hE
  obtain ⟨k', hk', e⟩ := fold_i k xs hE hk
  rw [foldFrom_same xs hf xs.length 0 (by omega)] at e
  obtain ⟨N, P, out, g1, g2, g3⟩ := kept_sem k' xs hok n1 n2 (by omega)
  rw [e, g1, Option.bind_some, kept_same hE g2 g3]
/-! ### Ops, inputs, depths -/
theorem isOp_ops (n : INode) : isOp n = decide (ops n.f0.toList > 0) := by
  unfold isOp
  by_cases h1 : one n.f0.toList = true
  · rw [h1, ops_one.2 h1]; rfl
  · by_cases h2 : two n.f0.toList = true
    · rw [h2, ops_two.2 h2]; simp
    · have := (ops_lt n.f0.toList).2 ⟨by simpa using h1, by simpa using h2⟩
      rw [Bool.eq_false_iff.mpr h1, Bool.eq_false_iff.mpr h2, decide_eq_false (by omega)]
      rfl
theorem drop_ops (xs : List INode) (i : Nat) (hi : i < xs.length) : nOps (xs.drop i) = (if isOp xs[i] then 1 else 0) + nOps (xs.drop (i + 1)) := by
  unfold nOps
  rw [List.drop_eq_getElem_cons hi, List.countP_cons]
  omega
theorem count_loop (xs : List INode) (hn : xs.length ≤ 1048576) (d : Nat) : ∀ (k i : Nat) (s : Int), i + d = xs.length → d + 20 < k → 0 ≤ s → s ≤ i →
    spec_exCount.l0 k s xs (xs.length : Int) (i : Int) = some (s + (nOps (xs.drop i) : Int)) ∧ impl_CountOps.l0 k s xs (xs.length : Int) (i : Int) = some (s + (nOps (xs.drop i) : Int), true) := by
  induction d with
  | zero =>
    intro k i s h hk h0 h1
    obtain ⟨k, rfl⟩ : ∃ m, k = m + 1 := ⟨k - 1, by omega⟩
    have hz : (nOps (xs.drop i) : Int) = 0 := by rw [List.drop_eq_nil_of_le (by omega)]; rfl
    refine ⟨?_, ?_⟩
    · simp only [spec_exCount.l0]; rw [if_neg (by omega), hz, Int.add_zero]
    · simp only [impl_CountOps.l0]; rw [if_neg (by omega), hz, Int.add_zero]
  | succ d ih =>
    intro k i s h hk h0 h1
    obtain ⟨k, rfl⟩ : ∃ m, k = m + 1 := ⟨k - 1, by omega⟩
    have hi : i < xs.length := by omega
    have hp := parts_pos xs[i].f0.toList xs[i].f1 xs[i].f2
    have hd := drop_ops xs i hi
    rw [isOp_ops] at hd
    by_cases hc : ops xs[i].f0.toList > 0
    · obtain ⟨g1, g2⟩ := ih k (i + 1) (s + 1) (by omega) (by omega) (by omega) (by omega)
      rw [decide_eq_true hc, decide_eq_true_eq] at hp
      rw [decide_eq_true hc, if_pos rfl] at hd
      have e : s + (nOps (xs.drop i) : Int) = s + 1 + (nOps (xs.drop (i + 1)) : Int) := by rw [hd]; omega
      rw [e]
      refine ⟨?_, ?_⟩
      · simp only [spec_exCount.l0]
        rw [if_pos (by omega), if_pos (by omega), if_pos (by omega), rdI xs i hi, exParts_f k (by omega), Option.bind_some, if_pos hp, wrapS hi (by omega), wrap64_small (by omega) (by omega)]
        exact g1
      · simp only [impl_CountOps.l0]
        rw [if_pos (by omega), if_pos (by omega), if_pos (by omega), rdI xs i hi, operands_f k (by omega), Option.bind_some, decide_eq_true hc, wrapS hi (by omega)]
        show impl_CountOps.l0 k (wrap64 (s + 1)) xs _ _ = _
        rw [wrap64_small (by omega) (by omega)]
        exact g2
    · obtain ⟨g1, g2⟩ := ih k (i + 1) s (by omega) (by omega) (by omega) (by omega)
      rw [decide_eq_false hc, decide_eq_false_iff_not] at hp
      rw [decide_eq_false hc, if_neg (by decide), Nat.zero_add] at hd
      rw [hd]
      refine ⟨?_, ?_⟩
      · simp only [spec_exCount.l0]
        rw [if_pos (by omega), if_pos (by omega), if_pos (by omega), rdI xs i hi, exParts_f k (by omega), Option.bind_some, if_neg hp, wrapS hi (by omega)]
        exact g1
      · simp only [impl_CountOps.l0]
        rw [if_pos (by omega), if_pos (by omega), if_pos (by omega), rdI xs i hi, operands_f k (by omega), Option.bind_some, decide_eq_false hc, wrapS hi (by omega)]
        show impl_CountOps.l0 k (wrap64 (s + 0)) xs _ _ = _
        rw [wrap64_small (by omega) (by omega), Int.add_zero]
        exact g2
theorem count_f (k : Nat) (xs : List INode) (hn : xs.length ≤ 1048576) (hk : 4 * xs.length + 100 < k) : impl_CountOps.f k xs = some (if isE xs = true then ((nOps xs : Int), true) else (0, false)) ∧ spec_CountOps.f k xs = some (if isE xs = true then ((nOps xs : Int), true) else (0, false)) := by
  have h := count_loop xs hn xs.length k 0 0 (by omega) (by omega) (by omega) (by omega)
  rw [List.drop_zero, Int.zero_add] at h
  unfold impl_CountOps.f spec_CountOps.f spec_exCount.f
  rw [good_f k xs (by omega) hn, isExpr_f k xs (by omega) hn]
  simp only [Option.bind_some]
  by_cases hE : isE xs = true
  · rw [if_pos hE, if_pos hE, if_pos hE]
    exact ⟨h.2, by rw [show spec_exCount.l0 k 0 xs (xs.length : Int) 0 = _ from h.1]; rfl⟩
  · rw [if_neg hE, if_neg hE, if_neg hE]
    exact ⟨rfl, rfl⟩
/-- An expression without inputs, in which nothing can be folded, is one node. -/
theorem noInputs (xs : List INode) (hE : isE xs = true) (hf : noFold xs) (h0 : xs.any (isIn 0) = false) (h1 : xs.any (isIn 1) = false) : xs.length = 1 := by
  obtain ⟨n1, n2, hok⟩ := isE_true hE
  have hni : ∀ (j : Nat) (hj : j < xs.length), xs[j].f0.toList ≠ [105, 110] := fun j hj hin => by
    rcases node_kinds (hok j hj) with ⟨_, _, g0, g1⟩ | ⟨g, _⟩ | ⟨g, _⟩ | ⟨g, _⟩
    · have hz : isIn 0 xs[j] = true ∨ isIn 1 xs[j] = true := by
        unfold isIn
        rw [hin]
        by_cases e : xs[j].f3 = 0
        · left; rw [e]; decide
        · right; rw [show xs[j].f3 = 1 by omega]; decide
      rcases hz with hz | hz
      · have : xs.any (isIn 0) = true := List.any_eq_true.2 ⟨_, List.getElem_mem hj, hz⟩
        rw [h0] at this; cases this
      · have : xs.any (isIn 1) = true := List.any_eq_true.2 ⟨_, List.getElem_mem hj, hz⟩
        rw [h1] at this; cases this
    · rw [hin] at g; exact absurd g (by decide)
    · rw [hin] at g; exact absurd g (by decide)
    · rw [hin] at g; exact absurd g (by decide)
  have hall : ∀ j : Nat, ∀ hj : j < xs.length, isC xs[j] = true := by
    intro j
    induction j using Nat.strongRecOn with
    | _ j ih =>
      intro hj
      have hop : ∀ p ∈ partsOf xs[j], isC (ndAt xs p) = true := fun p hp => by
        have hb := parts_lt (hok j hj) p hp
        obtain ⟨m, rfl⟩ : ∃ m : Nat, p = (m : Int) := ⟨p.toNat, by omega⟩
        rw [nd_at xs m (by omega)]
        exact ih m (by omega) (by omega)
      rcases node_kinds (hok j hj) with ⟨g, _⟩ | ⟨g, _⟩ | ⟨_, g, _⟩ | ⟨_, _, g, _⟩
      · exact absurd g (hni j hj)
      · exact isC_iff.2 g
      · exact absurd (.inl ⟨g, hop _ (parts_mem_one g)⟩) (hf j hj)
      · exact absurd (.inr ⟨g, hop _ (parts_mem_two g).1, hop _ (parts_mem_two g).2⟩) (hf j hj)
  by_cases e : xs.length = 1
  · exact e
  · obtain ⟨n, hn, hp⟩ := isE_used hE 0 (by omega)
    obtain ⟨j, hj, rfl⟩ := List.mem_iff_getElem.1 hn
    have hc := isC_iff.1 (hall j hj)
    unfold partsOf parts at hp
    rw [hc, if_neg (by decide), if_neg (by decide)] at hp
    cases hp
theorem inp_nil {a b : Bool} (h : (inp a b).length = 0) : a = false ∧ b = false := by
  cases a <;> cases b <;> simp [inp] at h ⊢
theorem mx_le {a b c : Int} (h1 : a ≤ c) (h2 : b ≤ c) : mx a b ≤ c := by unfold mx; split <;> omega
theorem mx_ge {a b : Int} (h : 0 ≤ a) : 0 ≤ mx a b := by unfold mx; split <;> omega
/-- Each node's depth is at most the number of ops up to it. -/
theorem depths_le (xs : List INode) (hok : okAll xs) (hn : xs.length ≤ 24) (d : Nat) : ∀ (i : Nat) (u : List Int), i + d = xs.length → u.length = xs.length → (∀ q : Nat, q < i → 0 ≤ rd u (q : Int) ∧ rd u (q : Int) ≤ (nOps (xs.take (q + 1)) : Int)) → (∀ q : Nat, i ≤ q → rd u (q : Int) = 0) →
    ∀ q : Nat, q < xs.length → rd (depths xs d i u) (q : Int) ≤ (nOps (xs.take (q + 1)) : Int) := by
  induction d with
  | zero => intro i u h hu h1 h2 q hq; exact (h1 q (by omega)).2
  | succ d ih =>
    intro i u h hu h1 h2 q hq
    have hi : i < xs.length := by omega
    have hg : xs.getD i z47 = xs[i] := getD_at xs hi
    have htk : ∀ q : Nat, q < i → (nOps (xs.take (q + 1)) : Int) ≤ (nOps (xs.take i) : Int) := fun q hq => by
      have : nOps (xs.take (q + 1)) ≤ nOps (xs.take i) := by
        unfold nOps
        exact List.Sublist.countP_le (List.take_sublist_take_left (by omega))
      omega
    have hti := take_ops xs i hi
    have hlen : nOps (xs.take i) ≤ 24 := by
      unfold nOps
      exact Nat.le_trans List.countP_le_length (by rw [List.length_take]; omega)
    have key : ∀ ps : List Int, (∀ p ∈ ps, 0 ≤ p ∧ p < (i : Int)) → (ps ≠ [] → isOp xs[i] = true) → ∀ v : List Int, v.length = xs.length → (∀ q : Nat, q ≠ i → rd v (q : Int) = rd u (q : Int)) → 0 ≤ rd v (i : Int) ∧ rd v (i : Int) ≤ (nOps (xs.take (i + 1)) : Int) →
        (ps.foldl (deep i) v).length = xs.length ∧ (∀ q : Nat, q ≠ i → rd (ps.foldl (deep i) v) (q : Int) = rd u (q : Int)) ∧ 0 ≤ rd (ps.foldl (deep i) v) (i : Int) ∧ rd (ps.foldl (deep i) v) (i : Int) ≤ (nOps (xs.take (i + 1)) : Int) := by
      intro ps
      induction ps with
      | nil => intro _ _ v hv hq hr; exact ⟨hv, hq, hr.1, hr.2⟩
      | cons p ps ihp =>
        intro hp hop v hv hq hr
        obtain ⟨p0, p1⟩ := hp p (List.mem_cons_self ..)
        obtain ⟨m, rfl⟩ : ∃ m : Nat, p = (m : Int) := ⟨p.toNat, by omega⟩
        have hm := h1 m (by omega)
        have hmt := htk m (by omega)
        have hopi := hop (by simp)
        rw [hopi, if_pos rfl] at hti
        rw [List.foldl_cons]
        refine ihp (fun r hr => hp r (List.mem_cons_of_mem _ hr)) (fun _ => hopi) _ (by rw [deep_length]; exact hv) (fun q hqi => ?_) ?_
        · unfold deep
          rw [rd_setO hqi]
          exact hq q hqi
        · unfold deep
          rw [rd_setN (by omega), hq m (by omega), wrap64_small (by omega) (by omega)]
          exact ⟨mx_ge hr.1, mx_le hr.2 (by omega)⟩
    have hps : ∀ p ∈ partsOf xs[i], 0 ≤ p ∧ p < (i : Int) := fun p hp => by
      have := parts_lt (hok i hi) p hp
      omega
    have hop : partsOf xs[i] ≠ [] → isOp xs[i] = true := fun hne => by
      unfold isOp
      unfold partsOf parts at hne
      by_cases g1 : one xs[i].f0.toList = true
      · rw [g1]; rfl
      · by_cases g2 : two xs[i].f0.toList = true
        · rw [g2]; simp
        · rw [if_neg g1, if_neg g2] at hne
          exact absurd rfl hne
    obtain ⟨k1, k2, k3, k4⟩ := key (partsOf xs[i]) hps hop u hu (fun _ _ => rfl) ⟨by rw [h2 i (Nat.le_refl _)]; omega, by rw [h2 i (Nat.le_refl _)]; omega⟩
    simp only [depths, hg]
    refine ih (i + 1) _ (by omega) k1 (fun q hq => ?_) (fun q hq => ?_) q hq
    · by_cases e : q = i
      · subst e; exact ⟨k3, k4⟩
      · rw [k2 q e]; exact h1 q (by omega)
    · rw [k2 q (by omega)]; exact h2 q (by omega)
theorem depth_f (k : Nat) (xs : List INode) (hn : xs.length ≤ 1048576) (hk : 4 * xs.length + 100 < k) : ∃ q : Int × Bool, impl_DepthOf.f k xs = some q ∧ spec_DepthOf.f k xs = some q ∧ (isE xs = true → q.1 ≤ (nOps xs : Int)) := by
  unfold impl_DepthOf.f spec_DepthOf.f
  rw [good_f k xs (by omega) hn, isExpr_f k xs (by omega) hn]
  simp only [Option.bind_some]
  by_cases hE : isE xs = true
  · obtain ⟨n1, n2, hok⟩ := isE_true hE
    obtain ⟨g1, g2⟩ := depth_main xs hok hn n1 xs.length k 0 (List.replicate xs.length 0) (by omega) (by omega) (by simp)
    have hle := depths_le xs hok n2 xs.length 0 (List.replicate xs.length 0) (by omega) (by simp) (fun q h => by omega) (fun q _ => by
      unfold rd
      rw [List.getD_eq_getElem?_getD, Int.toNat_natCast, List.getElem?_replicate]
      split <;> rfl) (xs.length - 1) (by omega)
    rw [show xs.length - 1 + 1 = xs.length by omega, List.take_length] at hle
    refine ⟨(rd (depths xs xs.length 0 (List.replicate xs.length 0)) ((xs.length - 1 : Nat) : Int), true), ?_, ?_, fun _ => hle⟩
    · rw [if_pos hE, if_pos (by omega), if_pos (by omega), Int.toNat_natCast]
      exact g2
    · rw [if_pos hE, if_pos (by omega), if_pos (by omega), Int.toNat_natCast]
      exact g1
  · rw [if_neg hE, if_neg hE]
    exact ⟨(0, false), rfl, rfl, fun h => absurd h hE⟩
end Go.Proofs.Ytlcplhcccgbmnaa.PureOps
