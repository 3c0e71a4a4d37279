/- Folding: what it gives is an expression with the same values, with no more ops, and with no op whose operands are constants. Plain. -/
import Derived.Test.YtlcplhcccgbmnaaUVals
import Derived.Test.YtlcplhcccgbmnaaUUses
import Derived.Test.YtlcplhcccgbmnaaUPureFoldExpr
namespace Go.Proofs.Ytlcplhcccgbmnaa.PureOps
open Go.RowKit Go.Proofs.Ytlcplhcccgbmnaa.D Go.Proofs.YtlcplhcccgbmnaaW.PrintWords Go.Proofs.YtlcplhcccgbmnaaW.PrintLast Go.Proofs.YtlcplhcccgbmnaaW.PrintMore
set_option linter.unusedVariables false
set_option linter.unusedSimpArgs false
theorem rd_setN {u : List Int} {j : Nat} (h : j < u.length) (v : Int) : rd (u.set j v) (j : Int) = v := by
  unfold rd
  simp [List.getD_eq_getElem?_getD, h]
theorem rd_setO {u : List Int} {j m : Nat} (h : m ≠ j) (v : Int) : rd (u.set j v) (m : Int) = rd u (m : Int) := by
  unfold rd
  simp [List.getD_eq_getElem?_getD, List.getElem?_set_ne (fun e => h e.symm)]
theorem moved_kinds {n : INode} {i : Int} (hok : nodeOk n.f0.toList n.f1 n.f2 n.f3 i = true) (P : List Int) : (leaf n.f0.toList = true ∧ moved n P = ⟨n.f0, 0, 0, n.f3⟩) ∨ (leaf n.f0.toList = false ∧ one n.f0.toList = true ∧ moved n P = ⟨n.f0, rd P n.f1, 0, n.f3⟩ ∧ 0 ≤ n.f1 ∧ n.f1 < i ∧ n.f3 = 0) ∨ (leaf n.f0.toList = false ∧ one n.f0.toList = false ∧ two n.f0.toList = true ∧ moved n P = ⟨n.f0, rd P n.f1, rd P n.f2, n.f3⟩ ∧ 0 ≤ n.f1 ∧ n.f1 < i ∧ 0 ≤ n.f2 ∧ n.f2 < i ∧ n.f3 = 0) := by
  have h3 : leaf n.f0.toList = false → n.f3 = 0 := fun hl => by
    unfold nodeOk at hok
    rw [hl, if_neg (by decide)] at hok
    by_cases h1 : one n.f0.toList = true
    · rw [if_pos h1] at hok
      simp only [Bool.and_eq_true, beq_iff_eq] at hok
      exact hok.2
    · rw [if_neg h1] at hok
      simp only [Bool.and_eq_true, beq_iff_eq] at hok
      exact hok.2
  rcases node_kinds hok with ⟨_, h2, _⟩ | ⟨_, h2⟩ | ⟨hl, h1, p0, p1⟩ | ⟨hl, h1, h4, p0, p1, q0, q1⟩
  · obtain ⟨a, b⟩ := leaf_not h2
    exact .inl ⟨h2, by unfold moved; rw [a, b]; rfl⟩
  · obtain ⟨a, b⟩ := leaf_not h2
    exact .inl ⟨h2, by unfold moved; rw [a, b]; rfl⟩
  · exact .inr (.inl ⟨hl, h1, by unfold moved; rw [if_pos h1], p0, p1, h3 hl⟩)
  · exact .inr (.inr ⟨hl, h1, h4, by unfold moved; rw [h1, if_neg (by decide), if_pos h4], p0, p1, q0, q1, h3 hl⟩)
theorem moved_congr {n : INode} {i : Int} (hok : nodeOk n.f0.toList n.f1 n.f2 n.f3 i = true) {P P' : List Int} (h : ∀ p : Int, 0 ≤ p → p < i → rd P p = rd P' p) : moved n P = moved n P' := by
  rcases moved_kinds hok P with ⟨h1, e⟩ | ⟨hl, h1, e, p0, p1, _⟩ | ⟨hl, h1, h2, e, p0, p1, q0, q1, _⟩
  · rcases moved_kinds hok P' with ⟨_, e'⟩ | ⟨h, _⟩ | ⟨h, _⟩
    · rw [e, e']
    · rw [h1] at h; cases h
    · rw [h1] at h; cases h
  · unfold moved
    rw [if_pos h1, if_pos h1, h _ p0 p1]
  · unfold moved
    rw [h1, if_neg (by decide), if_pos h2, if_neg (by decide), if_pos h2, h _ p0 p1, h _ q0 q1]
theorem moved_ok {n : INode} {i : Int} (hok : nodeOk n.f0.toList n.f1 n.f2 n.f3 i = true) {P : List Int} {m : Int} (h : ∀ p : Int, 0 ≤ p → p < i → 0 ≤ rd P p ∧ rd P p < m) : nodeOk (moved n P).f0.toList (moved n P).f1 (moved n P).f2 (moved n P).f3 m = true := by
  rcases moved_kinds hok P with ⟨h1, e⟩ | ⟨hl, h1, e, p0, p1, h3⟩ | ⟨hl, h1, h2, e, p0, p1, q0, q1, h3⟩
  · rw [e]
    unfold nodeOk at hok ⊢
    rw [if_pos h1] at hok
    rw [if_pos h1]
    simp only [Bool.and_eq_true] at hok ⊢
    exact ⟨⟨by decide, by decide⟩, hok.2⟩
  · rw [e]
    have := h _ p0 p1
    unfold nodeOk
    rw [hl, if_neg (by decide), if_pos h1, h3]
    simp only [Bool.and_eq_true, decide_eq_true_eq, beq_iff_eq]
    exact ⟨⟨⟨this.1, by omega⟩, trivial⟩, trivial⟩
  · rw [e]
    have t1 := h _ p0 p1
    have t2 := h _ q0 q1
    unfold nodeOk
    rw [hl, if_neg (by decide), h1, if_neg (by decide), h2, h3]
    simp only [Bool.and_eq_true, decide_eq_true_eq, beq_iff_eq]
    exact ⟨⟨⟨trivial, t1.1, by omega⟩, t2.1, by omega⟩, trivial⟩
theorem moved_parts {n : INode} {i : Int} (hok : nodeOk n.f0.toList n.f1 n.f2 n.f3 i = true) (P : List Int) {p : Int} (hp : p ∈ partsOf n) : rd P p ∈ partsOf (moved n P) := by
  unfold partsOf parts at hp ⊢
  rcases moved_kinds hok P with ⟨h1, e⟩ | ⟨hl, h1, e, p0, p1, h3⟩ | ⟨hl, h1, h2, e, p0, p1, q0, q1, h3⟩
  · obtain ⟨a, b⟩ := leaf_not h1
    rw [a, b] at hp
    cases hp
  · rw [if_pos h1] at hp
    rw [e, if_pos h1]
    rw [List.mem_singleton.1 hp]
    exact List.mem_singleton.2 rfl
  · rw [h1, if_neg (by decide), if_pos h2] at hp
    rw [e]
    show rd P p ∈ (if one n.f0.toList = true then _ else _)
    rw [h1, if_neg (by decide), if_pos h2]
    rcases List.mem_cons.1 hp with h | h
    · rw [h]; exact List.mem_cons_self ..
    · rw [List.mem_singleton.1 h]; exact List.mem_cons_of_mem _ (List.mem_singleton.2 rfl)
theorem getD_app (out : List INode) (m : INode) {q : Nat} (h : q < out.length) : (out ++ [m]).getD q z47 = out.getD q z47 := by
  rw [List.getD_eq_getElem?_getD, List.getD_eq_getElem?_getD, List.getElem?_append_left h]
theorem getD_end (out : List INode) (m : INode) : (out ++ [m]).getD out.length z47 = m := by
  rw [List.getD_eq_getElem?_getD, List.getElem?_append_right (Nat.le_refl _), Nat.sub_self]; rfl

/-! ### Folding a node -/
theorem isC_iff {n : INode} : isC n = true ↔ n.f0.toList = [99, 111, 110, 115, 116] := by unfold isC; rw [beq_iff_eq]
theorem nd_at (s : List INode) (j : Nat) (h : j < s.length) : ndAt s (j : Int) = s[j] := rdI s j h
/-- The operands of a node are constants (and it has one). -/
def foldable (s : List INode) (n : INode) : Prop := (one n.f0.toList = true ∧ isC (ndAt s n.f1) = true) ∨ (two n.f0.toList = true ∧ isC (ndAt s n.f1) = true ∧ isC (ndAt s n.f2) = true)
theorem cnode_c (v : Int) : (cnode v).f0.toList = [99, 111, 110, 115, 116] := by
  show (⟨#[99, 111, 110, 115, 116]⟩ : ByteArray).toList = _
  decide +kernel
theorem cnode_not (s : List INode) (v : Int) : ¬ foldable s (cnode v) := by
  unfold foldable
  rw [cnode_c]
  rintro (⟨h, _⟩ | ⟨h, _⟩) <;> exact absurd h (by decide)
/-- A step of folding leaves the list as it is, or makes a node that can be folded a constant. -/
theorem foldAt_kinds (s : List INode) (i : Nat) (hi : i < s.length) : (foldAt s i = s ∧ ¬ foldable s s[i]) ∨ (∃ v, foldAt s i = s.set i (cnode v) ∧ foldable s s[i] ∧ (one s[i].f0.toList = true ∧ v = app s[i].f0 (ndAt s s[i].f1).f3 0 ∨ one s[i].f0.toList = false ∧ v = app s[i].f0 (ndAt s s[i].f1).f3 (ndAt s s[i].f2).f3)) := by
  unfold foldAt foldable
  rw [nd_at s i hi]
  dsimp only
  by_cases h1 : one s[i].f0.toList = true
  · have h2 : two s[i].f0.toList = false := (one_not h1).2
    rw [if_pos h1]
    by_cases c1 : isC (ndAt s s[i].f1) = true
    · rw [if_pos c1]
      exact .inr ⟨_, rfl, .inl ⟨h1, c1⟩, .inl ⟨h1, rfl⟩⟩
    · rw [if_neg c1]
      exact .inl ⟨rfl, by rintro (⟨_, h⟩ | ⟨h, _⟩); exact c1 h; rw [h2] at h; cases h⟩
  · have h1' := Bool.eq_false_iff.mpr h1
    rw [if_neg h1]
    by_cases h2 : two s[i].f0.toList = true
    · rw [if_pos h2]
      by_cases c1 : isC (ndAt s s[i].f1) = true
      · rw [if_pos c1]
        by_cases c2 : isC (ndAt s s[i].f2) = true
        · rw [if_pos c2]
          exact .inr ⟨_, rfl, .inr ⟨h2, c1, c2⟩, .inr ⟨h1', rfl⟩⟩
        · rw [if_neg c2]
          exact .inl ⟨rfl, by rintro (⟨h, _⟩ | ⟨_, _, h⟩); exact h1 h; exact c2 h⟩
      · rw [if_neg c1]
        exact .inl ⟨rfl, by rintro (⟨h, _⟩ | ⟨_, h, _⟩); exact h1 h; exact c1 h⟩
    · rw [if_neg h2]
      exact .inl ⟨rfl, by rintro (⟨h, _⟩ | ⟨h, _⟩); exact h1 h; exact h2 h⟩
theorem parts_mem_one {n : INode} (h : one n.f0.toList = true) : n.f1 ∈ partsOf n := by unfold partsOf parts; rw [if_pos h]; exact List.mem_singleton.2 rfl
theorem parts_mem_two {n : INode} (h : two n.f0.toList = true) : n.f1 ∈ partsOf n ∧ n.f2 ∈ partsOf n := by
  have h1 : one n.f0.toList = false := (two_not h).2
  unfold partsOf parts
  rw [h1, if_neg (by decide), if_pos h]
  exact ⟨List.mem_cons_self .., List.mem_cons_of_mem _ (List.mem_singleton.2 rfl)⟩
/-- Whether a node can be folded hangs on its operands alone. -/
theorem foldable_congr {s s' : List INode} {n : INode} (h : ∀ p ∈ partsOf n, isC (ndAt s p) = isC (ndAt s' p)) : foldable s n ↔ foldable s' n := by
  unfold foldable
  constructor
  · rintro (⟨h1, h2⟩ | ⟨h1, h2, h3⟩)
    · exact .inl ⟨h1, by rw [← h _ (parts_mem_one h1)]; exact h2⟩
    · exact .inr ⟨h1, by rw [← h _ (parts_mem_two h1).1]; exact h2, by rw [← h _ (parts_mem_two h1).2]; exact h3⟩
  · rintro (⟨h1, h2⟩ | ⟨h1, h2, h3⟩)
    · exact .inl ⟨h1, by rw [h _ (parts_mem_one h1)]; exact h2⟩
    · exact .inr ⟨h1, by rw [h _ (parts_mem_two h1).1]; exact h2, by rw [h _ (parts_mem_two h1).2]; exact h3⟩
theorem foldAt_vals (s : List INode) (hok : okAll s) (i : Nat) (hi : i < s.length) (x y : Int) (q : Nat) (hq : q < s.length) : rd (vals (foldAt s i) x y) (q : Int) = rd (vals s x y) (q : Int) := by
  rcases foldAt_kinds s i hi with ⟨e, _⟩ | ⟨v, e, hf, hv⟩
  · rw [e]
  · rw [e]
    have hok' : okAll (s.set i (cnode v)) := by rw [← e]; exact foldAt_ok s hok i
    refine (isV_unique (s.set i (cnode v)) hok' (x := x) (y := y) (vals_V _ hok' x y) (L' := vals s x y) (fun j hj => ?_) q (by rw [List.length_set]; exact hq))
    have hj' : j < s.length := by rw [List.length_set] at hj; exact hj
    by_cases ej : i = j
    · subst ej
      rw [List.getElem_set_self, val_const (cnode_c v), vals_V s hok x y i hi]
      show val s[i] _ x y = v
      have hl : leaf s[i].f0.toList = false := by
        rcases hf with ⟨h, _⟩ | ⟨h, _⟩
        · exact (one_not h).1
        · exact (two_not h).1
      rw [val_op hl]
      unfold opV
      have hc : ∀ p ∈ partsOf s[i], isC (ndAt s p) = true → rd (vals s x y) p = (ndAt s p).f3 := fun p hp hcp => by
        have hb := parts_lt (hok i hi) p hp
        obtain ⟨m, rfl⟩ : ∃ m : Nat, p = (m : Int) := ⟨p.toNat, by omega⟩
        rw [nd_at s m (by omega)] at hcp ⊢
        rw [vals_V s hok x y m (by omega), val_const (isC_iff.1 hcp)]
      rcases hv with ⟨h1, hv⟩ | ⟨h1, hv⟩
      · rw [if_pos h1, hv]
        rcases hf with ⟨_, h2⟩ | ⟨h2, _⟩
        · rw [hc _ (parts_mem_one h1) h2]
        · rw [(one_not h1).2] at h2; cases h2
      · rw [h1, if_neg (by decide), hv]
        rcases hf with ⟨h2, _⟩ | ⟨h2, h3, h4⟩
        · rw [h1] at h2; cases h2
        · rw [hc _ (parts_mem_two h2).1 h3, hc _ (parts_mem_two h2).2 h4]
    · rw [List.getElem_set_ne ej, vals_V s hok x y j hj']
/-! ### Folding all nodes -/
def foldFrom : Nat → Nat → List INode → List INode
  | 0, _, s => s
  | d + 1, i, s => foldFrom d (i + 1) (foldAt s i)
def isOp (n : INode) : Bool := one n.f0.toList || two n.f0.toList
def nOps (s : List INode) : Nat := s.countP isOp
theorem cnode_noOp (v : Int) : isOp (cnode v) = false := by unfold isOp; rw [cnode_c]; decide
theorem nOps_set (s : List INode) (i : Nat) (v : Int) : nOps (s.set i (cnode v)) ≤ nOps s := by
  induction s generalizing i with
  | nil => exact Nat.le_refl _
  | cons a s ih =>
    cases i with
    | zero =>
      unfold nOps
      rw [List.set_cons_zero, List.countP_cons_of_neg (by rw [cnode_noOp]; decide)]
      rw [List.countP_cons]
      exact Nat.le_add_right _ _
    | succ i =>
      have := ih i
      unfold nOps at this ⊢
      rw [List.set_cons_succ, List.countP_cons, List.countP_cons]
      omega
theorem foldFrom_spec (d : Nat) : ∀ (i : Nat) (s : List INode), okAll s → i + d = s.length → (∀ (j : Nat) (h : j < s.length), j < i → ¬ foldable s s[j]) →
    (foldFrom d i s).length = s.length ∧ okAll (foldFrom d i s) ∧ (∀ (x y : Int) (q : Nat), q < s.length → rd (vals (foldFrom d i s) x y) (q : Int) = rd (vals s x y) (q : Int)) ∧ (∀ (j : Nat) (h : j < (foldFrom d i s).length), ¬ foldable (foldFrom d i s) (foldFrom d i s)[j]) ∧ nOps (foldFrom d i s) ≤ nOps s := by
  induction d with
  | zero =>
    intro i s hok h hn
    exact ⟨rfl, hok, fun _ _ _ _ => rfl, fun j hj => hn j hj (by have : j < s.length := hj; omega), Nat.le_refl _⟩
  | succ d ih =>
    intro i s hok h hn
    have hi : i < s.length := by omega
    have hl := foldAt_length s i
    have hn' : ∀ (j : Nat) (hj : j < (foldAt s i).length), j < i + 1 → ¬ foldable (foldAt s i) (foldAt s i)[j] := by
      rcases foldAt_kinds s i hi with ⟨e, hf⟩ | ⟨v, e, hf, _⟩
      · rw [e]
        intro j hj hji
        by_cases ej : j = i
        · subst ej; exact hf
        · exact hn j hj (by omega)
      · rw [e]
        intro j hj hji
        by_cases ej : i = j
        · subst ej
          rw [List.getElem_set_self]
          exact cnode_not _ v
        · have hj' : j < s.length := by rw [List.length_set] at hj; exact hj
          rw [List.getElem_set_ne ej]
          refine fun hc => hn j hj' (by omega) ((foldable_congr (fun p hp => ?_)).1 hc)
          have hb := parts_lt (hok j hj') p hp
          obtain ⟨m, rfl⟩ : ∃ m : Nat, p = (m : Int) := ⟨p.toNat, by omega⟩
          rw [nd_at _ m (by rw [List.length_set]; omega), nd_at s m (by omega), List.getElem_set_ne (by omega)]
    obtain ⟨a1, a2, a3, a4, a5⟩ := ih (i + 1) (foldAt s i) (foldAt_ok s hok i) (by omega) hn'
    refine ⟨a1.trans hl, a2, fun x y q hq => (a3 x y q (by omega)).trans (foldAt_vals s hok i hi x y q hq), a4, Nat.le_trans a5 ?_⟩
    rcases foldAt_kinds s i hi with ⟨e, _⟩ | ⟨v, e, _⟩
    · rw [e]; exact Nat.le_refl _
    · rw [e]; exact nOps_set s i v
/-! ### Which nodes are kept -/
theorem rdB_set {N : List Bool} {j : Nat} (h : j < N.length) (b : Bool) (q : Nat) : rdOf false (N.set j b) (q : Int) = if q = j then b else rdOf false N (q : Int) := by
  unfold rdOf
  rw [List.getD_eq_getElem?_getD, List.getD_eq_getElem?_getD, Int.toNat_natCast]
  by_cases e : q = j
  · subst e; rw [if_pos rfl, List.getElem?_set_self h]; rfl
  · rw [if_neg e, List.getElem?_set_ne (fun h => e h.symm)]
theorem setB_at {i p q : Nat} {N : List Bool} (hp : p < N.length) : rdOf false (setB (i : Int) N (p : Int)) (q : Int) = true ↔ rdOf false N (q : Int) = true ∨ (p = q ∧ rdOf false N (i : Int) = true) := by
  unfold setB
  by_cases hb : rdOf false N (p : Int) = true
  · rw [if_pos hb, Int.toNat_natCast, rdB_set hp]
    by_cases e : q = p
    · subst e; rw [if_pos rfl]; exact ⟨fun _ => .inl hb, fun _ => rfl⟩
    · rw [if_neg e]; exact ⟨.inl, fun h => h.elim id (fun h => absurd h.1.symm e)⟩
  · rw [if_neg hb, Int.toNat_natCast, rdB_set hp]
    by_cases e : q = p
    · subst e; rw [if_pos rfl]; exact ⟨fun h => .inr ⟨rfl, h⟩, fun h => h.elim (fun h => absurd h hb) (fun h => h.2)⟩
    · rw [if_neg e]; exact ⟨.inl, fun h => h.elim id (fun h => absurd h.1.symm e)⟩
theorem setBs_at (i : Nat) (ps : List Int) : ∀ N : List Bool, (∀ p ∈ ps, 0 ≤ p ∧ p < (i : Int) ∧ p < (N.length : Int)) → ∀ q : Nat, (rdOf false (ps.foldl (setB (i : Int)) N) (q : Int) = true ↔ rdOf false N (q : Int) = true ∨ ((q : Int) ∈ ps ∧ rdOf false N (i : Int) = true)) := by
  induction ps with
  | nil => intro N _ q; exact ⟨.inl, fun h => h.elim id (fun h => nomatch h.1)⟩
  | cons p ps ih =>
    intro N hp q
    obtain ⟨h0, h1, h2⟩ := hp p (List.mem_cons_self ..)
    obtain ⟨m, rfl⟩ : ∃ m : Nat, p = (m : Int) := ⟨p.toNat, by omega⟩
    rw [List.foldl_cons, ih _ (fun r hr => by rw [setB_length]; exact hp r (List.mem_cons_of_mem _ hr)) q, setB_at (by omega), setB_at (by omega)]
    constructor
    · rintro ((h | ⟨h, h'⟩) | ⟨h, h' | ⟨h', _⟩⟩)
      · exact .inl h
      · exact .inr ⟨by rw [h]; exact List.mem_cons_self .., h'⟩
      · exact .inr ⟨List.mem_cons_of_mem _ h, h'⟩
      · omega
    · rintro (h | ⟨h, h'⟩)
      · exact .inl (.inl h)
      · rcases List.mem_cons.1 h with h | h
        · exact .inl (.inr ⟨by omega, h'⟩)
        · exact .inr ⟨h, .inl h'⟩
/-- What the marks say once the nodes from m on have been gone through. -/
def marked (xs : List INode) (m : Nat) (N : List Bool) : Prop :=
  N.length = xs.length ∧ rdOf false N ((xs.length - 1 : Nat) : Int) = true ∧
  (∀ (i : Nat) (h : i < xs.length), m ≤ i → rdOf false N (i : Int) = true → ∀ p ∈ partsOf xs[i], rdOf false N p = true) ∧
  (∀ j : Nat, j < xs.length - 1 → rdOf false N (j : Int) = true → ∃ (i : Nat) (h : i < xs.length), rdOf false N (i : Int) = true ∧ (j : Int) ∈ partsOf xs[i])
theorem marked_step (xs : List INode) (hok : okAll xs) (m : Nat) (hm : m < xs.length) (N : List Bool) (h : marked xs (m + 1) N) : marked xs m ((partsOf xs[m]).foldl (setB (m : Int)) N) := by
  obtain ⟨h1, h2, h3, h4⟩ := h
  have hp : ∀ p ∈ partsOf xs[m], 0 ≤ p ∧ p < (m : Int) ∧ p < (N.length : Int) := fun p hp => by
    have := parts_lt (hok m hm) p hp
    omega
  have key := setBs_at m (partsOf xs[m]) N hp
  have hold : ∀ q : Nat, m ≤ q → (rdOf false ((partsOf xs[m]).foldl (setB (m : Int)) N) (q : Int) = true ↔ rdOf false N (q : Int) = true) := fun q hq => by
    rw [key q]
    exact ⟨fun h => h.elim id (fun h => by have := hp _ h.1; omega), .inl⟩
  refine ⟨by rw [setBs_length]; exact h1, (key _).2 (.inl h2), fun i hi hmi hN p hpp => ?_, fun j hj hN => ?_⟩
  · have hb := parts_lt (hok i hi) p hpp
    obtain ⟨q, rfl⟩ : ∃ q : Nat, p = (q : Int) := ⟨p.toNat, by omega⟩
    rw [hold i hmi] at hN
    rw [key q]
    by_cases e : i = m
    · subst e; exact .inr ⟨hpp, hN⟩
    · exact .inl (h3 i hi (by omega) hN _ hpp)
  · rw [key j] at hN
    rcases hN with hN | ⟨hN, hm'⟩
    · obtain ⟨i, hi, g1, g2⟩ := h4 j hj hN
      exact ⟨i, hi, (key i).2 (.inl g1), g2⟩
    · exact ⟨m, hm, (key m).2 (.inl hm'), hN⟩
theorem keepMarks (xs : List INode) (hok : okAll xs) (hn : xs.length ≤ 24) (m : Nat) : ∀ (k : Nat) (N : List Bool), m ≤ xs.length → marked xs m N → 5 * m + 20 < k →
    ∃ k' N', k ≤ k' + 4 * m ∧ marked xs 0 N' ∧ impl_kept.l0 k xs N ((m : Int) - 1) = impl_kept.l0 k' xs N' (-1) := by
  induction m with
  | zero => intro k N _ hN hk; exact ⟨k, N, by omega, hN, rfl⟩
  | succ m ih =>
    intro k N hm hN hk
    obtain ⟨k, rfl⟩ : ∃ q, k = q + 1 := ⟨k - 1, by omega⟩
    have hi : m < xs.length := by omega
    have hNl := hN.1
    have hp : ∀ p ∈ partsOf xs[m], 0 ≤ p ∧ p < N.length := fun p hp => by
      have := parts_lt (hok m hi) p hp
      omega
    have hl : (partsOf xs[m]).length ≤ 2 := parts_len _ _ _
    obtain ⟨q2, hq2, e2⟩ := keep1_i xs m (partsOf xs[m]) hl (partsOf xs[m]).length k 0 N (by omega) (by omega) hp (by omega)
    rw [List.drop_zero, show wrap64 ((m : Int) - 1) = (m : Int) - 1 from wrap64_small (by omega) (by omega)] at e2
    obtain ⟨k', N', a1, a2, a3⟩ := ih q2 _ (by omega) (marked_step xs hok m hi N hN) (by omega)
    refine ⟨k', N', by omega, a2, ?_⟩
    rw [← a3, ← e2, show (((m + 1 : Nat) : Int) - 1) = (m : Int) by omega]
    simp only [impl_kept.l0]
    rw [if_pos (by omega), if_pos (by omega), if_pos (by omega), rdI xs m hi, of_f k (by omega), Option.bind_some]
    rfl
/-! ### What is kept -/
abbrev kept (N : List Bool) (j : Nat) : Prop := rdOf false N (j : Int) = true
def kInv (xs : List INode) (N : List Bool) (i : Nat) (P : List Int) (out : List INode) : Prop :=
  (P.length = xs.length ∧ out.length ≤ i ∧ okAll out ∧ nOps out ≤ nOps (xs.take i)) ∧
  (∀ (j : Nat) (h : j < xs.length), j < i → kept N j → 0 ≤ rd P (j : Int) ∧ rd P (j : Int) < (out.length : Int) ∧ out.getD (rd P (j : Int)).toNat z47 = moved xs[j] P) ∧
  (∀ q : Nat, q < out.length → ∃ (j : Nat) (h : j < xs.length), j < i ∧ kept N j ∧ rd P (j : Int) = (q : Int)) ∧
  (∀ j j' : Nat, j < j' → j' < i → kept N j → kept N j' → rd P (j : Int) < rd P (j' : Int)) ∧
  (1 ≤ i → kept N (i - 1) → rd P ((i - 1 : Nat) : Int) = (out.length : Int) - 1)
theorem moved_isC (n : INode) (P : List Int) : (moved n P).f0 = n.f0 := by
  unfold moved
  split
  · rfl
  · split <;> rfl
theorem moved_okP {n : INode} {i : Int} (hok : nodeOk n.f0.toList n.f1 n.f2 n.f3 i = true) {P : List Int} {m : Int} (h : ∀ p ∈ partsOf n, 0 ≤ rd P p ∧ rd P p < m) : nodeOk (moved n P).f0.toList (moved n P).f1 (moved n P).f2 (moved n P).f3 m = true := by
  have e : moved n P = moved n (((List.range i.toNat).map (fun (q : Nat) => if (q : Int) ∈ partsOf n then rd P (q : Int) else 0))) := by
    have hr : ∀ p ∈ partsOf n, rd ((List.range i.toNat).map (fun (q : Nat) => if (q : Int) ∈ partsOf n then rd P (q : Int) else 0)) p = rd P p := fun p hp => by
      have hb := parts_lt hok p hp
      obtain ⟨q, rfl⟩ : ∃ q : Nat, p = (q : Int) := ⟨p.toNat, by omega⟩
      rw [rd_get _ q (by simp; omega)]
      simp [hp]
    unfold moved
    by_cases h1 : one n.f0.toList = true
    · rw [if_pos h1, if_pos h1, hr _ (parts_mem_one h1)]
    · rw [if_neg h1, if_neg h1]
      by_cases h2 : two n.f0.toList = true
      · rw [if_pos h2, if_pos h2, hr _ (parts_mem_two h2).1, hr _ (parts_mem_two h2).2]
      · rw [if_neg h2, if_neg h2]
  by_cases hm : 0 < m
  · rw [e]
    refine moved_ok hok (fun p p0 p1 => ?_)
    obtain ⟨q, rfl⟩ : ∃ q : Nat, p = (q : Int) := ⟨p.toNat, by omega⟩
    rw [rd_get _ q (by simp; omega)]
    simp only [List.getElem_map, List.getElem_range]
    by_cases hp : (q : Int) ∈ partsOf n
    · rw [if_pos hp]; exact h _ hp
    · rw [if_neg hp]; omega
  · rcases moved_kinds hok P with ⟨h1, e1⟩ | ⟨hl, h1, _, _⟩ | ⟨hl, h1, h2, _⟩
    · rw [e1]
      unfold nodeOk at hok ⊢
      rw [if_pos h1] at hok
      rw [if_pos h1]
      simp only [Bool.and_eq_true] at hok ⊢
      exact ⟨⟨by decide, by decide⟩, hok.2⟩
    · have := h _ (parts_mem_one h1); omega
    · have := h _ (parts_mem_two h2).1; omega
theorem moved_same {n : INode} {P P' : List Int} (h : ∀ p ∈ partsOf n, rd P p = rd P' p) : moved n P = moved n P' := by
  unfold moved
  by_cases h1 : one n.f0.toList = true
  · rw [if_pos h1, if_pos h1, h _ (parts_mem_one h1)]
  · rw [if_neg h1, if_neg h1]
    by_cases h2 : two n.f0.toList = true
    · rw [if_pos h2, if_pos h2, h _ (parts_mem_two h2).1, h _ (parts_mem_two h2).2]
    · rw [if_neg h2, if_neg h2]
theorem take_ops (xs : List INode) (i : Nat) (hi : i < xs.length) : nOps (xs.take (i + 1)) = nOps (xs.take i) + (if isOp xs[i] then 1 else 0) := by
  unfold nOps
  rw [List.take_add_one, List.getElem?_eq_getElem hi, List.countP_append]
  show _ = _ + _
  congr 1
  cases h : isOp xs[i] <;> simp [h]
theorem kInv_skip {xs : List INode} {N : List Bool} {i : Nat} {P : List Int} {out : List INode} (hi : i < xs.length) (h : kInv xs N i P out) (hc : ¬ kept N i) : kInv xs N (i + 1) P out := by
  obtain ⟨⟨h1, h2, h3, h4⟩, h5, h6, h7, h8⟩ := h
  refine ⟨⟨h1, by omega, h3, by rw [take_ops xs i hi]; omega⟩, fun j hj hji hk => ?_, fun q hq => ?_, fun j j' hjj hji hk hk' => ?_, fun _ hk => absurd hk hc⟩
  · have e : j ≠ i := fun e => by subst e; exact hc hk
    exact h5 j hj (by omega) hk
  · obtain ⟨j, hj, g1, g2, g3⟩ := h6 q hq
    exact ⟨j, hj, by omega, g2, g3⟩
  · have e : j' ≠ i := fun e => by subst e; exact hc hk'
    exact h7 j j' hjj (by omega) hk hk'
theorem kInv_keep {xs : List INode} {N : List Bool} {i : Nat} {P : List Int} {out : List INode} (hok : okAll xs) (hN : marked xs 0 N) (hi : i < xs.length) (h : kInv xs N i P out) (hc : kept N i) : kInv xs N (i + 1) (P.set i (out.length : Int)) (out ++ [moved xs[i] (P.set i (out.length : Int))]) := by
  obtain ⟨⟨h1, h2, h3, h4⟩, h5, h6, h7, h8⟩ := h
  have rn : rd (P.set i (out.length : Int)) (i : Int) = (out.length : Int) := rd_setN (by omega) _
  have ro : ∀ j : Nat, j ≠ i → rd (P.set i (out.length : Int)) (j : Int) = rd P (j : Int) := fun j hj => rd_setO hj _
  have hl : ∀ m : INode, (out ++ [m]).length = out.length + 1 := fun m => by simp
  have hpk : ∀ (j : Nat) (hj : j < xs.length), kept N j → ∀ p ∈ partsOf xs[j], ∃ q : Nat, p = (q : Int) ∧ q < j ∧ kept N q := fun j hj hk p hp => by
    have hb := parts_lt (hok j hj) p hp
    obtain ⟨q, rfl⟩ : ∃ q : Nat, p = (q : Int) := ⟨p.toNat, by omega⟩
    exact ⟨q, rfl, by omega, hN.2.2.1 j hj (Nat.zero_le _) hk _ hp⟩
  have hsame : ∀ (j : Nat) (hj : j < xs.length), j ≤ i → moved xs[j] P = moved xs[j] (P.set i (out.length : Int)) := fun j hj hji => moved_same (fun p hp => by
    have hb := parts_lt (hok j hj) p hp
    obtain ⟨q, rfl⟩ : ∃ q : Nat, p = (q : Int) := ⟨p.toNat, by omega⟩
    exact (ro q (by omega)).symm)
  refine ⟨⟨by rw [List.length_set]; exact h1, by rw [hl]; omega, fun q hq => ?_, ?_⟩, fun j hj hji hk => ?_, fun q hq => ?_, fun j j' hjj hji hk hk' => ?_, fun _ _ => by rw [hl, Nat.add_sub_cancel, rn]; omega⟩
  · have hq' : q < out.length + 1 := by rw [hl] at hq; exact hq
    by_cases e : q = out.length
    · subst e
      have em : (out ++ [moved xs[i] (P.set i (out.length : Int))])[out.length] = moved xs[i] (P.set i (out.length : Int)) := by simp
      rw [em]
      refine moved_okP (hok i hi) (fun p hp => ?_)
      obtain ⟨q, rfl, hqi, hqk⟩ := hpk i hi hc p hp
      rw [ro q (by omega)]
      have := h5 q (by omega) hqi hqk
      exact ⟨this.1, this.2.1⟩
    · have hlt : q < out.length := by omega
      rw [List.getElem_append_left hlt]
      exact h3 q hlt
  · rw [take_ops xs i hi]
    have : isOp (moved xs[i] (P.set i (out.length : Int))) = isOp xs[i] := by unfold isOp; rw [moved_isC]
    unfold nOps at h4 ⊢
    rw [List.countP_append]
    have e : List.countP isOp [moved xs[i] (P.set i (out.length : Int))] = if isOp xs[i] then 1 else 0 := by
      rw [← this]
      cases h : isOp (moved xs[i] (P.set i (out.length : Int))) <;> simp [h]
    rw [e]
    omega
  · rw [hl]
    by_cases e : j = i
    · subst e
      rw [rn, Int.toNat_natCast, getD_end]
      exact ⟨by omega, by omega, rfl⟩
    · obtain ⟨g0, g1, g2⟩ := h5 j hj (by omega) hk
      rw [ro j e, getD_app _ _ (by omega)]
      exact ⟨g0, by omega, g2.trans (hsame j hj (by omega))⟩
  · rw [hl] at hq
    by_cases e : q = out.length
    · exact ⟨i, hi, by omega, hc, by rw [rn, e]⟩
    · obtain ⟨j, hj, g1, g2, g3⟩ := h6 q (by omega)
      exact ⟨j, hj, by omega, g2, by rw [ro j (by omega)]; exact g3⟩
  · by_cases e : j' = i
    · subst e
      rw [rn, ro j (by omega)]
      exact (h5 j (by omega) (by omega) hk).2.1
    · rw [ro j (by omega), ro j' e]
      exact h7 j j' hjj (by omega) hk hk'
theorem keepLoop (xs : List INode) (hok : okAll xs) (hn : xs.length ≤ 24) (N : List Bool) (hN : marked xs 0 N) (d : Nat) : ∀ (k i : Nat) (P : List Int) (out : List INode), i + d = xs.length → d + 40 < k → kInv xs N i P out →
    ∃ P' out', impl_kept.l2 k N out P xs (xs.length : Int) (i : Int) = some out' ∧ kInv xs N xs.length P' out' := by
  induction d with
  | zero =>
    intro k i P out h hk hI
    obtain ⟨k, rfl⟩ : ∃ m, k = m + 1 := ⟨k - 1, by omega⟩
    obtain rfl : i = xs.length := by omega
    exact ⟨P, out, by simp only [impl_kept.l2]; rw [if_neg (by omega)], hI⟩
  | succ d ih =>
    intro k i P out h hk hI
    obtain ⟨k, rfl⟩ : ∃ m, k = m + 1 := ⟨k - 1, by omega⟩
    have hi : i < xs.length := by omega
    have hNl := hN.1
    have hPl := hI.1.1
    have hol := hI.1.2.1
    have hwS : Unit → wrap64 ((i : Int) + 1) = ((i + 1 : Nat) : Int) := fun _ => wrapS hi (by omega)
    by_cases hc : kept N i
    · obtain ⟨P', out', e, hI'⟩ := ih k (i + 1) _ _ (by omega) (by omega) (kInv_keep hok hN hi hI hc)
      refine ⟨P', out', ?_, hI'⟩
      have hm2 := moved_i k (by omega) xs[i] (i : Int) (hok i hi) (P.set i (out.length : Int)) (by rw [List.length_set]; omega)
      simp only [impl_kept.l2]
      rw [if_pos (show (i : Int) < (xs.length : Int) by omega), if_pos (show (0 : Int) ≤ (i : Int) by omega), if_pos (show (i : Int) < (xs.length : Int) by omega), if_pos (show (i : Int) < (N.length : Int) by omega), if_pos hc, if_pos (by omega), Int.toNat_natCast, Option.bind_some, rdI xs i hi, hm2, Option.bind_some, if_pos (by omega), hwS ()]
      exact e
    · obtain ⟨P', out', e, hI'⟩ := ih k (i + 1) P out (by omega) (by omega) (kInv_skip hi hI hc)
      refine ⟨P', out', ?_, hI'⟩
      simp only [impl_kept.l2]
      rw [if_pos (show (i : Int) < (xs.length : Int) by omega), if_pos (show (0 : Int) ≤ (i : Int) by omega), if_pos (show (i : Int) < (xs.length : Int) by omega), if_pos (show (i : Int) < (N.length : Int) by omega), if_neg hc, hwS ()]
      exact e
theorem kept_sem (k : Nat) (xs : List INode) (hok : okAll xs) (n1 : 1 ≤ xs.length) (n2 : xs.length ≤ 24) (hk : 400 < k) : ∃ N P out, impl_kept.f k xs ((xs.length - 1 : Nat) : Int) = some out ∧ marked xs 0 N ∧ kInv xs N xs.length P out := by
  have hm0 : marked xs xs.length ((List.replicate xs.length false).set (xs.length - 1) true) := by
    refine ⟨by simp, ?_, fun i hi hmi => by omega, fun j hj hN => ?_⟩
    · rw [rdB_set (by simp; omega), if_pos rfl]
    · rw [rdB_set (by simp; omega), if_neg (by omega)] at hN
      unfold rdOf at hN
      rw [List.getD_eq_getElem?_getD, Int.toNat_natCast, List.getElem?_replicate] at hN
      split at hN <;> cases hN
  obtain ⟨k', N', a1, a2, a3⟩ := keepMarks xs hok n2 xs.length k _ (Nat.le_refl _) hm0 (by omega)
  obtain ⟨k', rfl⟩ : ∃ m, k' = m + 1 := ⟨k' - 1, by omega⟩
  have hz : ∀ (j : Nat) (h : j < ([] : List INode).length), False := fun j h => by simp at h
  obtain ⟨P, out, e, hI⟩ := keepLoop xs hok n2 N' a2 xs.length k' 0 (List.replicate xs.length 0) [] (by omega) (by omega) ⟨⟨by simp, by simp, fun j h => (hz j h).elim, by simp [nOps]⟩, fun j hj hji => by omega, fun q hq => (hz q hq).elim, fun j j' _ h => by omega, fun h => by omega⟩
  refine ⟨N', P, out, ?_, a2, hI⟩
  rw [show (((xs.length : Nat) : Int) - 1) = ((xs.length - 1 : Nat) : Int) by omega] at a3
  unfold impl_kept.f
  rw [if_pos (by omega), if_pos (by omega), Option.bind_some, if_pos (by omega), if_pos (by rw [List.length_replicate]; omega), Int.toNat_natCast, Int.toNat_natCast, a3]
  simp only [impl_kept.l0]
  rw [if_neg (by omega), if_pos (by omega), if_pos (by omega), Int.toNat_natCast]
  exact e
end Go.Proofs.Ytlcplhcccgbmnaa.PureOps
