/- An expression in place of an input: it is an expression, and its values are those of the outer one at the inner one's. Plain. -/
import Derived.Test.YtlcplhcccgbmnaaQPurePutInput
import Derived.Test.YtlcplhcccgbmnaaQVals
import Derived.Test.YtlcplhcccgbmnaaQUses
namespace Go.Proofs.Ytlcplhcccgbmnaa.PureOps
open Go.RowKit Go.Proofs.Ytlcplhcccgbmnaa.B Go.Proofs.YtlcplhcccgbmnaaW.PrintWords Go.Proofs.YtlcplhcccgbmnaaW.PrintLast Go.Proofs.YtlcplhcccgbmnaaW.PrintMore
set_option linter.unusedVariables false
set_option linter.unusedSimpArgs false
theorem rd_setN {u : List Int} {j : Nat} (h : j < u.length) (v : Int) : rd (u.set j v) (j : Int) = v := by
  unfold rd
  simp [List.getD_eq_getElem?_getD, h]
theorem rd_setO {u : List Int} {j m : Nat} (h : m ≠ j) (v : Int) : rd (u.set j v) (m : Int) = rd u (m : Int) := by
  unfold rd
  simp [List.getD_eq_getElem?_getD, List.getElem?_set_ne (fun e => h e.symm)]
theorem moved_kinds {n : INode} {i : Int} (hok : nodeOk n.f0.toList n.f1 n.f2 n.f3 i = true) (P : List Int) : (leaf n.f0.toList = true ∧ moved n P = ⟨n.f0, 0, 0, n.f3⟩) ∨ (leaf n.f0.toList = false ∧ one n.f0.toList = true ∧ moved n P = ⟨n.f0, rd P n.f1, 0, n.f3⟩ ∧ 0 ≤ n.f1 ∧ n.f1 < i ∧ n.f3 = 0) ∨ (leaf n.f0.toList = false ∧ one n.f0.toList = false ∧ two n.f0.toList = true ∧ moved n P = ⟨n.f0, rd P n.f1, rd P n.f2, n.f3⟩ ∧ 0 ≤ n.f1 ∧ n.f1 < i ∧ 0 ≤ n.f2 ∧ n.f2 < i ∧ n.f3 = 0) := by
  have h3 : leaf n.f0.toList = false → n.f3 = 0 := fun hl => by
    unfold nodeOk at hok
    rw [hl, if_neg (by decide)] at hok
    by_cases h1 : one n.f0.toList = true
    · rw [if_pos h1] at hok
      simp only [Bool.and_eq_true, beq_iff_eq] at hok
      exact hok.2
    · rw [if_neg h1] at hok
      simp only [Bool.and_eq_true, beq_iff_eq] at hok
      exact hok.2
  rcases node_kinds hok with ⟨_, h2, _⟩ | ⟨_, h2⟩ | ⟨hl, h1, p0, p1⟩ | ⟨hl, h1, h4, p0, p1, q0, q1⟩
  · obtain ⟨a, b⟩ := leaf_not h2
    exact .inl ⟨h2, by unfold moved; rw [a, b]; rfl⟩
  · obtain ⟨a, b⟩ := leaf_not h2
    exact .inl ⟨h2, by unfold moved; rw [a, b]; rfl⟩
  · exact .inr (.inl ⟨hl, h1, by unfold moved; rw [if_pos h1], p0, p1, h3 hl⟩)
  · exact .inr (.inr ⟨hl, h1, h4, by unfold moved; rw [h1, if_neg (by decide), if_pos h4], p0, p1, q0, q1, h3 hl⟩)
theorem moved_congr {n : INode} {i : Int} (hok : nodeOk n.f0.toList n.f1 n.f2 n.f3 i = true) {P P' : List Int} (h : ∀ p : Int, 0 ≤ p → p < i → rd P p = rd P' p) : moved n P = moved n P' := by
  rcases moved_kinds hok P with ⟨h1, e⟩ | ⟨hl, h1, e, p0, p1, _⟩ | ⟨hl, h1, h2, e, p0, p1, q0, q1, _⟩
  · rcases moved_kinds hok P' with ⟨_, e'⟩ | ⟨h, _⟩ | ⟨h, _⟩
    · rw [e, e']
    · rw [h1] at h; cases h
    · rw [h1] at h; cases h
  · unfold moved
    rw [if_pos h1, if_pos h1, h _ p0 p1]
  · unfold moved
    rw [h1, if_neg (by decide), if_pos h2, if_neg (by decide), if_pos h2, h _ p0 p1, h _ q0 q1]
theorem moved_ok {n : INode} {i : Int} (hok : nodeOk n.f0.toList n.f1 n.f2 n.f3 i = true) {P : List Int} {m : Int} (h : ∀ p : Int, 0 ≤ p → p < i → 0 ≤ rd P p ∧ rd P p < m) : nodeOk (moved n P).f0.toList (moved n P).f1 (moved n P).f2 (moved n P).f3 m = true := by
  rcases moved_kinds hok P with ⟨h1, e⟩ | ⟨hl, h1, e, p0, p1, h3⟩ | ⟨hl, h1, h2, e, p0, p1, q0, q1, h3⟩
  · rw [e]
    unfold nodeOk at hok ⊢
    rw [if_pos h1] at hok
    rw [if_pos h1]
    simp only [Bool.and_eq_true] at hok ⊢
    exact ⟨⟨by decide, by decide⟩, hok.2⟩
  · rw [e]
    have := h _ p0 p1
    unfold nodeOk
    rw [hl, if_neg (by decide), if_pos h1, h3]
    simp only [Bool.and_eq_true, decide_eq_true_eq, beq_iff_eq]
    exact ⟨⟨⟨this.1, by omega⟩, trivial⟩, trivial⟩
  · rw [e]
    have t1 := h _ p0 p1
    have t2 := h _ q0 q1
    unfold nodeOk
    rw [hl, if_neg (by decide), h1, if_neg (by decide), h2, h3]
    simp only [Bool.and_eq_true, decide_eq_true_eq, beq_iff_eq]
    exact ⟨⟨⟨trivial, t1.1, by omega⟩, t2.1, by omega⟩, trivial⟩
theorem moved_parts {n : INode} {i : Int} (hok : nodeOk n.f0.toList n.f1 n.f2 n.f3 i = true) (P : List Int) {p : Int} (hp : p ∈ partsOf n) : rd P p ∈ partsOf (moved n P) := by
  unfold partsOf parts at hp ⊢
  rcases moved_kinds hok P with ⟨h1, e⟩ | ⟨hl, h1, e, p0, p1, h3⟩ | ⟨hl, h1, h2, e, p0, p1, q0, q1, h3⟩
  · obtain ⟨a, b⟩ := leaf_not h1
    rw [a, b] at hp
    cases hp
  · rw [if_pos h1] at hp
    rw [e, if_pos h1]
    rw [List.mem_singleton.1 hp]
    exact List.mem_singleton.2 rfl
  · rw [h1, if_neg (by decide), if_pos h2] at hp
    rw [e]
    show rd P p ∈ (if one n.f0.toList = true then _ else _)
    rw [h1, if_neg (by decide), if_pos h2]
    rcases List.mem_cons.1 hp with h | h
    · rw [h]; exact List.mem_cons_self ..
    · rw [List.mem_singleton.1 h]; exact List.mem_cons_of_mem _ (List.mem_singleton.2 rfl)
/-- Where the work stands before node i. -/
def pInv (xs ys : List INode) (a : Int) (i : Nat) (P : List Int) (out : List INode) : Prop :=
  (P.length = xs.length ∧ ys.length ≤ out.length ∧ out.length ≤ ys.length + i ∧ okAll out ∧ ∀ (q : Nat) (h : q < ys.length), out.getD q z47 = ys[q]) ∧
  (∀ j : Nat, j < i → 0 ≤ rd P (j : Int) ∧ rd P (j : Int) < (out.length : Int)) ∧
  (∀ (j : Nat) (h : j < xs.length), j < i → isIn a xs[j] = true → rd P (j : Int) = (ys.length : Int) - 1) ∧
  (∀ (j : Nat) (h : j < xs.length), j < i → isIn a xs[j] = false → (ys.length : Int) ≤ rd P (j : Int) ∧ out.getD (rd P (j : Int)).toNat z47 = moved xs[j] P) ∧
  (∀ q : Nat, ys.length ≤ q → q < out.length → ∃ (j : Nat) (h : j < xs.length), j < i ∧ isIn a xs[j] = false ∧ rd P (j : Int) = (q : Int)) ∧
  (∀ (h : i - 1 < xs.length), 1 ≤ i → isIn a xs[i - 1] = false → rd P ((i - 1 : Nat) : Int) = (out.length : Int) - 1)
theorem getD_app (out : List INode) (m : INode) {q : Nat} (h : q < out.length) : (out ++ [m]).getD q z47 = out.getD q z47 := by
  rw [List.getD_eq_getElem?_getD, List.getD_eq_getElem?_getD, List.getElem?_append_left h]
theorem getD_end (out : List INode) (m : INode) : (out ++ [m]).getD out.length z47 = m := by
  rw [List.getD_eq_getElem?_getD, List.getElem?_append_right (Nat.le_refl _), Nat.sub_self]; rfl
theorem pInv_in {xs ys : List INode} {a : Int} {i : Nat} {P : List Int} {out : List INode} (hok : okAll xs) (hy : 1 ≤ ys.length) (hi : i < xs.length) (h : pInv xs ys a i P out) (hc : isIn a xs[i] = true) : pInv xs ys a (i + 1) (P.set i ((ys.length : Int) - 1)) out := by
  obtain ⟨⟨h1, h2, h3, h4, h5⟩, h6, h7, h8, h9, h10⟩ := h
  have rn : rd (P.set i ((ys.length : Int) - 1)) (i : Int) = (ys.length : Int) - 1 := rd_setN (by omega) _
  have ro : ∀ j : Nat, j ≠ i → rd (P.set i ((ys.length : Int) - 1)) (j : Int) = rd P (j : Int) := fun j hj => rd_setO hj _
  refine ⟨⟨by rw [List.length_set]; exact h1, h2, by omega, h4, h5⟩, fun j hj => ?_, fun j hj hji hjc => ?_, fun j hj hji hjc => ?_, fun q q1 q2 => ?_, fun hh _ hc' => ?_⟩
  · by_cases e : j = i
    · rw [e, rn]; omega
    · rw [ro j e]; exact h6 j (by omega)
  · by_cases e : j = i
    · subst e; exact rn
    · rw [ro j e]; exact h7 j hj (by omega) hjc
  · have e : j ≠ i := fun e => by subst e; rw [hc] at hjc; cases hjc
    obtain ⟨g1, g2⟩ := h8 j hj (by omega) hjc
    rw [ro j e]
    refine ⟨g1, g2.trans (moved_congr (hok j hj) (fun p p0 p1 => ?_))⟩
    obtain ⟨q, rfl⟩ : ∃ q : Nat, p = (q : Int) := ⟨p.toNat, by omega⟩
    exact (ro q (by omega)).symm
  · obtain ⟨j, hj, g1, g2, g3⟩ := h9 q q1 q2
    exact ⟨j, hj, by omega, g2, by rw [ro j (by omega)]; exact g3⟩
  · simp only [Nat.add_sub_cancel] at hc'
    rw [hc] at hc'; cases hc'
theorem pInv_out {xs ys : List INode} {a : Int} {i : Nat} {P : List Int} {out : List INode} (hok : okAll xs) (hi : i < xs.length) (h : pInv xs ys a i P out) (hc : isIn a xs[i] = false) : pInv xs ys a (i + 1) (P.set i (out.length : Int)) (out ++ [moved xs[i] (P.set i (out.length : Int))]) := by
  obtain ⟨⟨h1, h2, h3, h4, h5⟩, h6, h7, h8, h9, h10⟩ := h
  have rn : rd (P.set i (out.length : Int)) (i : Int) = (out.length : Int) := rd_setN (by omega) _
  have ro : ∀ j : Nat, j ≠ i → rd (P.set i (out.length : Int)) (j : Int) = rd P (j : Int) := fun j hj => rd_setO hj _
  have hl : ∀ m : INode, (out ++ [m]).length = out.length + 1 := fun m => by simp
  refine ⟨⟨by rw [List.length_set]; exact h1, by rw [hl]; omega, by rw [hl]; omega, fun q hq => ?_, fun q hq => ?_⟩, fun j hj => ?_, fun j hj hji hjc => ?_, fun j hj hji hjc => ?_, fun q q1 q2 => ?_, fun hh _ hc' => ?_⟩
  · have hq' : q < out.length + 1 := by rw [hl] at hq; exact hq
    by_cases e : q = out.length
    · subst e
      have em : (out ++ [moved xs[i] (P.set i (out.length : Int))])[out.length] = moved xs[i] (P.set i (out.length : Int)) := by simp
      rw [em]
      refine moved_ok (hok i hi) (fun p p0 p1 => ?_)
      obtain ⟨r, rfl⟩ : ∃ r : Nat, p = (r : Int) := ⟨p.toNat, by omega⟩
      rw [ro r (by omega)]
      exact h6 r (by omega)
    · have hlt : q < out.length := by omega
      rw [List.getElem_append_left hlt]
      exact h4 q hlt
  · rw [getD_app _ _ (by omega)]; exact h5 q hq
  · rw [hl]
    by_cases e : j = i
    · rw [e, rn]; omega
    · rw [ro j e]; have := h6 j (by omega); omega
  · have e : j ≠ i := fun e => by subst e; rw [hc] at hjc; cases hjc
    rw [ro j e]; exact h7 j hj (by omega) hjc
  · by_cases e : j = i
    · subst e
      rw [rn, Int.toNat_natCast, getD_end]
      exact ⟨by omega, rfl⟩
    · obtain ⟨g1, g2⟩ := h8 j hj (by omega) hjc
      have hb := h6 j (by omega)
      rw [ro j e, getD_app _ _ (by omega)]
      refine ⟨g1, g2.trans (moved_congr (hok j hj) (fun p p0 p1 => ?_))⟩
      obtain ⟨q, rfl⟩ : ∃ q : Nat, p = (q : Int) := ⟨p.toNat, by omega⟩
      exact (ro q (by omega)).symm
  · rw [hl] at q2
    by_cases e : q = out.length
    · exact ⟨i, hi, by omega, hc, by rw [rn, e]⟩
    · obtain ⟨j, hj, g1, g2, g3⟩ := h9 q q1 (by omega)
      exact ⟨j, hj, by omega, g2, by rw [ro j (by omega)]; exact g3⟩
  · rw [hl]
    simp only [Nat.add_sub_cancel]
    rw [rn]
    omega
/-- The other input's or this one's value. -/
def subX (a x v : Int) : Int := if a = 1 then x else v
def subY (a y v : Int) : Int := if a = 1 then v else y
theorem put_vals {xs ys : List INode} {a : Int} {P : List Int} {out : List INode} (hok : okAll xs) (hoy : okAll ys) (hy : 1 ≤ ys.length) (ha : 0 ≤ a ∧ a ≤ 1) (h : pInv xs ys a xs.length P out) (x y : Int) (j : Nat) : j < xs.length → rd (vals out x y) (rd P (j : Int)) = rd (vals xs (subX a x (evalE ys x y)) (subY a y (evalE ys x y))) (j : Int) := by
  obtain ⟨⟨h1, h2, h3, h4, h5⟩, h6, h7, h8, h9, h10⟩ := h
  induction j using Nat.strongRecOn with
  | _ j ih =>
    intro hj
    rw [vals_V xs hok _ _ j hj]
    cases hc : isIn a xs[j] with
    | true =>
      have hc' := hc
      unfold isIn at hc'
      simp only [Bool.and_eq_true, beq_iff_eq] at hc'
      rw [h7 j hj hj hc, val_in hc'.1, hc'.2]
      have e : (ys.length : Int) - 1 = ((ys.length - 1 : Nat) : Int) := by omega
      rw [e, vals_pre out ys h4 hoy h2 h5 x y (ys.length - 1) (by omega)]
      unfold subX subY evalE
      by_cases h0 : a = 0
      · rw [if_pos h0, if_neg (by omega)]
      · rw [if_neg h0, if_pos (by omega)]
    | false =>
      obtain ⟨g1, g2⟩ := h8 j hj hj hc
      have hb := h6 j hj
      obtain ⟨m, hm⟩ : ∃ m : Nat, rd P (j : Int) = (m : Int) := ⟨(rd P (j : Int)).toNat, by omega⟩
      rw [hm] at g1 g2 hb ⊢
      rw [Int.toNat_natCast, getD_at out (by omega)] at g2
      have e := vals_V out h4 x y m (by omega)
      rw [g2] at e
      rw [e]
      have hne : ∀ (h : xs[j].f0.toList = [105, 110]), xs[j].f3 ≠ a := fun h e' => by
        unfold isIn at hc
        rw [h, e'] at hc
        simp at hc
      have hkey : ∀ p : Int, 0 ≤ p → p < (j : Int) → rd (vals out x y) (rd P p) = rd (vals xs (subX a x (evalE ys x y)) (subY a y (evalE ys x y))) p := fun p p0 p1 => by
        obtain ⟨q, rfl⟩ : ∃ q : Nat, p = (q : Int) := ⟨p.toNat, by omega⟩
        exact ih q (by omega) (by omega)
      rcases moved_kinds (hok j hj) P with ⟨hl, e1⟩ | ⟨hl, ho, e1, p0, p1, _⟩ | ⟨hl, ho, ht, e1, p0, p1, q0, q1, _⟩
      · rw [e1]
        rcases node_kinds (hok j hj) with ⟨hk, _, k0, k1⟩ | ⟨hk, _⟩ | ⟨hk, _⟩ | ⟨hk, _⟩
        · rw [val_in hk, val_in (n := ⟨xs[j].f0, 0, 0, xs[j].f3⟩) hk]
          have := hne hk
          unfold subX subY
          by_cases h0 : xs[j].f3 = 0
          · rw [if_pos h0, if_pos h0, if_pos (by omega)]
          · rw [if_neg h0, if_neg h0, if_neg (by omega)]
        · rw [val_const hk, val_const (n := ⟨xs[j].f0, 0, 0, xs[j].f3⟩) hk]
        · rw [hl] at hk; cases hk
        · rw [hl] at hk; cases hk
      · rw [e1, val_op hl, val_op (n := ⟨xs[j].f0, rd P xs[j].f1, 0, xs[j].f3⟩) hl]
        unfold opV
        rw [if_pos ho, if_pos ho]
        show app xs[j].f0 (rd (vals out x y) (rd P xs[j].f1)) 0 = _
        rw [hkey _ p0 p1]
      · rw [e1, val_op hl, val_op (n := ⟨xs[j].f0, rd P xs[j].f1, rd P xs[j].f2, xs[j].f3⟩) hl]
        unfold opV
        rw [ho, if_neg (by decide), if_neg (by decide)]
        show app xs[j].f0 (rd (vals out x y) (rd P xs[j].f1)) (rd (vals out x y) (rd P xs[j].f2)) = _
        rw [hkey _ p0 p1, hkey _ q0 q1]
theorem put_expr {xs ys : List INode} {a : Int} {P : List Int} {out : List INode} (hE : isE xs = true) (hF : isE ys = true) (hin : xs.any (isIn a) = true) (h : pInv xs ys a xs.length P out) (h24 : out.length ≤ 24) : isE out = true ∧ rd P ((xs.length - 1 : Nat) : Int) = ((out.length - 1 : Nat) : Int) := by
  obtain ⟨n1, n2, hok⟩ := isE_true hE
  obtain ⟨m1, m2, hoy⟩ := isE_true hF
  obtain ⟨⟨h1, h2, h3, h4, h5⟩, h6, h7, h8, h9, h10⟩ := h
  have useq : ∀ j : Nat, j < xs.length - 1 → ∃ n ∈ out, rd P (j : Int) ∈ partsOf n := fun j hj => by
    obtain ⟨n, hn, hp⟩ := isE_used hE j hj
    obtain ⟨m, hm, rfl⟩ := List.mem_iff_getElem.1 hn
    have hc : isIn a xs[m] = false := by
      rw [Bool.eq_false_iff]
      intro e
      unfold isIn at e
      simp only [Bool.and_eq_true, beq_iff_eq] at e
      unfold partsOf at hp
      rw [e.1] at hp
      exact absurd hp (by unfold parts; rw [if_neg (by decide), if_neg (by decide)]; simp)
    obtain ⟨g1, g2⟩ := h8 m hm hm hc
    have hb := h6 m hm
    rw [getD_at out (by omega)] at g2
    exact ⟨out[(rd P (m : Int)).toNat]'(by omega), List.getElem_mem _, by rw [g2]; exact moved_parts (hok m hm) P hp⟩
  -- the last node is an input only if it stands alone
  have hlast : isIn a xs[xs.length - 1] = true → xs.length = 1 := fun hc => by
    refine Classical.byContradiction fun hne => ?_
    obtain ⟨n, hn, hp⟩ := isE_used hE (xs.length - 2) (by omega)
    obtain ⟨m, hm, rfl⟩ := List.mem_iff_getElem.1 hn
    have hlt := parts_lt (hok m hm) _ hp
    have : m = xs.length - 1 := by omega
    subst this
    unfold isIn at hc
    simp only [Bool.and_eq_true, beq_iff_eq] at hc
    unfold partsOf at hp
    rw [hc.1] at hp
    exact absurd hp (by unfold parts; rw [if_neg (by decide), if_neg (by decide)]; simp)
  have hroot : rd P ((xs.length - 1 : Nat) : Int) = ((out.length - 1 : Nat) : Int) := by
    cases hc : isIn a xs[xs.length - 1] with
    | false =>
      have := h10 (by omega) n1 hc
      rw [this]; omega
    | true =>
      have hl1 := hlast hc
      rw [h7 (xs.length - 1) (by omega) (by omega) hc]
      have : ¬ ys.length < out.length := fun hlt => by
        obtain ⟨j, hj, g1, g2, g3⟩ := h9 ys.length (Nat.le_refl _) hlt
        have : j = xs.length - 1 := by omega
        subst this
        rw [hc] at g2; cases g2
      omega
  refine ⟨isE_mk (by omega) h24 h4 (fun q hq => ?_), hroot⟩
  by_cases c1 : q < ys.length - 1
  · obtain ⟨n, hn, hp⟩ := isE_used hF q c1
    obtain ⟨m, hm, rfl⟩ := List.mem_iff_getElem.1 hn
    have := h5 m hm
    rw [getD_at out (by omega)] at this
    exact ⟨out[m], List.getElem_mem (by omega), by rw [this]; exact hp⟩
  · by_cases c2 : q = ys.length - 1
    · rw [List.any_eq_true] at hin
      obtain ⟨n, hn, hc⟩ := hin
      obtain ⟨j, hj, rfl⟩ := List.mem_iff_getElem.1 hn
      have e := h7 j hj hj hc
      by_cases c3 : j = xs.length - 1
      · subst c3
        rw [hroot] at e
        omega
      · obtain ⟨n, hn, hp⟩ := useq j (by omega)
        rw [e] at hp
        exact ⟨n, hn, by rw [c2]; rw [show ((ys.length - 1 : Nat) : Int) = (ys.length : Int) - 1 by omega]; exact hp⟩
    · obtain ⟨j, hj, g1, g2, g3⟩ := h9 q (by omega) (by omega)
      by_cases c3 : j = xs.length - 1
      · subst c3
        rw [hroot] at g3
        omega
      · obtain ⟨n, hn, hp⟩ := useq j (by omega)
        rw [g3] at hp
        exact ⟨n, hn, hp⟩
theorem put_sem (xs ys : List INode) (a : Int) (hok : okAll xs) (hn : xs.length ≤ 24) (hy : 1 ≤ ys.length ∧ ys.length ≤ 24) (d : Nat) : ∀ (k i : Nat) (P : List Int) (out : List INode), i + d = xs.length → d + 40 < k → pInv xs ys a i P out →
    ∃ P' out', impl_PutInput.l0 k ys out P xs (xs.length : Int) (i : Int) ⟨#[105, 110]⟩ 0 0 a = some (if (out'.length : Int) > 24 then ([], false) else (out', true)) ∧ pInv xs ys a xs.length P' out' := by
  induction d with
  | zero =>
    intro k i P out h hk hI
    obtain ⟨k, rfl⟩ : ∃ m, k = m + 1 := ⟨k - 1, by omega⟩
    obtain rfl : i = xs.length := by omega
    refine ⟨P, out, ?_, hI⟩
    simp only [impl_PutInput.l0]
    rw [if_neg (show ¬ (xs.length : Int) < (xs.length : Int) by omega)]
    by_cases hc : (out.length : Int) > 24
    · rw [if_pos hc, if_pos hc]
    · rw [if_neg hc, if_neg hc]
  | succ d ih =>
    intro k i P out h hk hI
    obtain ⟨k, rfl⟩ : ∃ m, k = m + 1 := ⟨k - 1, by omega⟩
    have hi : i < xs.length := by omega
    have hP := hI.1.1
    have ho := hI.1.2.2.1
    have hwS : Unit → wrap64 ((i : Int) + 1) = ((i + 1 : Nat) : Int) := fun _ => wrapS hi (by omega)
    have heq := isIn_eq (hok i hi) a
    have hm2 := moved_i k (by omega) xs[i] (i : Int) (hok i hi) (P.set i (out.length : Int)) (by rw [List.length_set]; omega)
    simp only [impl_PutInput.l0]
    rw [if_pos (show (i : Int) < (xs.length : Int) by omega), if_pos (show (0 : Int) ≤ (i : Int) by omega), if_pos (show (i : Int) < (xs.length : Int) by omega), rdI xs i hi, heq, hwS ()]
    cases hc : isIn a xs[i] with
    | true =>
      obtain ⟨P', out', e1, e2⟩ := ih k (i + 1) _ out (by omega) (by omega) (pInv_in hok hy.1 hi hI hc)
      refine ⟨P', out', ?_, e2⟩
      rw [if_pos rfl, if_pos (by omega), Int.toNat_natCast, wrap64_small (n := (ys.length : Int) - 1) (by omega) (by omega)]
      exact e1
    | false =>
      obtain ⟨P', out', e1, e2⟩ := ih k (i + 1) _ _ (by omega) (by omega) (pInv_out hok hi hI hc)
      refine ⟨P', out', ?_, e2⟩
      rw [if_neg (by decide), if_pos (by omega), Int.toNat_natCast, Option.bind_some, hm2, Option.bind_some, if_pos (by omega)]
      exact e1
theorem putInput_sem (k : Nat) (xs ys : List INode) (a : Int) (hE : isE xs = true) (hF : isE ys = true) (ha : 0 ≤ a ∧ a ≤ 1) (hk : 700 < k) : ∃ out b, impl_PutInput.f k xs a ys = some (out, b) ∧ (b = true → isE out = true ∧ ∀ x y : Int, evalE out x y = evalE xs (subX a x (evalE ys x y)) (subY a y (evalE ys x y))) := by
  obtain ⟨n1, n2, hok⟩ := isE_true hE
  obtain ⟨m1, m2, hoy⟩ := isE_true hF
  obtain ⟨k, rfl⟩ : ∃ m, k = m + 1 := ⟨k - 1, by omega⟩
  have hA : (decide (0 ≤ a) && decide (a ≤ 1)) = true := by simp; omega
  unfold impl_PutInput.f
  rw [isExpr_f (k + 1) xs (by omega) (by omega), isExpr_f (k + 1) ys (by omega) (by omega), within_f]
  simp only [Option.bind_some, impl_PutInput.j0]
  rw [if_pos hE, if_pos hF, hA, if_neg (by decide), contains_f xs hok (by omega) a k (by omega), Option.bind_some]
  by_cases hu : xs.any (isIn a) = true
  · have h0 : pInv xs ys a 0 (List.replicate xs.length 0) ys := ⟨⟨by simp, Nat.le_refl _, by omega, hoy, fun q hq => getD_at ys hq⟩, fun j hj => by omega, fun j _ hj => by omega, fun j _ hj => by omega, fun q q1 q2 => by omega, fun _ h _ => by omega⟩
    obtain ⟨P, out, e1, hI⟩ := put_sem xs ys a hok n2 ⟨m1, m2⟩ xs.length k 0 _ ys (by omega) (by omega) h0
    have e2 : (if xs.any (isIn a) = true then (impl_Node_58.f ys).bind fun t344 => if 0 ≤ (xs.length : Int) then (if ((xs.length : Int)).toNat ≤ 35184372088832 then impl_PutInput.l0 k ys t344 (List.replicate ((xs.length : Int)).toNat 0) xs (xs.length : Int) 0 ⟨#[105, 110]⟩ 0 0 a else none) else none else (impl_Node_58.f xs).bind fun t341 => some (t341, true)) = some (if (out.length : Int) > 24 then ([], false) else (out, true)) := by
      rw [if_pos hu, cloneN_f ys m2, Option.bind_some, if_pos (by omega), if_pos (by omega), Int.toNat_natCast]
      exact e1
    by_cases hc : (out.length : Int) > 24
    · rw [if_pos hc] at e2
      exact ⟨[], false, e2, fun hb => by cases hb⟩
    · rw [if_neg hc] at e2
      refine ⟨out, true, e2, fun _ => ?_⟩
      obtain ⟨p1, p2⟩ := put_expr hE hF hu hI (by omega)
      refine ⟨p1, fun x y => ?_⟩
      have := put_vals hok hoy m1 ha hI x y (xs.length - 1) (by omega)
      rw [p2] at this
      exact this
  · refine ⟨xs, true, ?_, fun _ => ⟨hE, fun x y => ?_⟩⟩
    · rw [if_neg hu, cloneN_f xs n2, Option.bind_some]
    · have hno : ∀ (q : Nat) (hq : q < xs.length), xs[q].f0.toList = [105, 110] → xs[q].f3 ≠ a := fun q hq h1 h2 => hu (by
        rw [List.any_eq_true]
        exact ⟨xs[q], List.getElem_mem hq, by unfold isIn; rw [h1, h2]; simp⟩)
      unfold evalE
      refine vals_free xs hok x y _ _ (fun q hq h1 => ?_) (xs.length - 1) (by omega)
      have := hno q hq h1
      have h01 : 0 ≤ xs[q].f3 ∧ xs[q].f3 ≤ 1 := by
        rcases node_kinds (hok q hq) with ⟨_, _, h⟩ | ⟨h, _⟩ | ⟨h, _⟩ | ⟨h, _⟩
        · exact h
        · rw [h1] at h; cases h
        · rw [h1] at h; exact absurd h (by decide)
        · rw [h1] at h; exact absurd h (by decide)
      unfold subX subY
      by_cases h0 : xs[q].f3 = 0
      · rw [if_pos h0, if_pos h0, if_pos (by omega)]
      · rw [if_neg h0, if_neg h0, if_neg (by omega)]
end Go.Proofs.Ytlcplhcccgbmnaa.PureOps
