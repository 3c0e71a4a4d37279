/- What is alive before an instruction: one strictly increasing list of both sides. Plain. -/
import Derived.Test.YtecmlikhmkcdpaaYPureWanted
import Derived.Test.YtecmlikhmkcdpaaGImplInstrReads
namespace Go.Proofs.Ytecmlikhmkcdpaa.PureOps
open Go.RowKit Go.Proofs.Ytecmlikhmkcdpaa.G Go.Proofs.YtecmlikhmkcdpaaW.PrintWords Go.Proofs.YtecmlikhmkcdpaaW.PrintLast Go.Proofs.YtecmlikhmkcdpaaW.PrintMore
set_option linter.unusedVariables false
set_option linter.unusedSimpArgs false
/-- Strictly increasing lists with the same members are the same. -/
theorem uniq : ∀ (l l' : List Int), l.Pairwise (· < ·) → l'.Pairwise (· < ·) → (∀ x, x ∈ l ↔ x ∈ l') → l = l'
  | [], [], _, _, _ => rfl
  | [], b :: t, _, _, h => absurd ((h b).2 (by simp)) (by simp)
  | a :: s, [], _, _, h => absurd ((h a).1 (by simp)) (by simp)
  | a :: s, b :: t, h1, h2, h => by
    rw [List.pairwise_cons] at h1 h2
    have ha := (h a).1 (by simp)
    have hb := (h b).2 (by simp)
    have e : a = b := by
      rcases List.mem_cons.1 ha with e | e
      · exact e
      · rcases List.mem_cons.1 hb with e2 | e2
        · exact e2.symm
        · have := h1.1 b e2
          have := h2.1 a e
          omega
    subst e
    rw [uniq s t h1.2 h2.2 (fun x => ⟨fun hx => ?_, fun hx => ?_⟩)]
    · rcases List.mem_cons.1 ((h x).1 (List.mem_cons_of_mem _ hx)) with e | e
      · have := h1.1 x hx
        omega
      · exact e
    · rcases List.mem_cons.1 ((h x).2 (List.mem_cons_of_mem _ hx)) with e | e
      · have := h2.1 x hx
        omega
      · exact e
theorem compact_sorted (l : List Int) (h : l.Pairwise (· ≤ ·)) : (Go.Lib.compact l).Pairwise (· < ·) ∧ ∀ x, x ∈ Go.Lib.compact l ↔ x ∈ l := by
  have hg : ∀ i (hi : i < l.length), l.toArray[i]! = l[i] := fun i hi => by simp [hi]
  have hs := List.pairwise_iff_getElem.1 h
  constructor
  · unfold Go.Lib.compact Go.Lib.compactUpTo
    rw [List.pairwise_map]
    refine (((List.pairwise_lt_range (n := l.length)).filter (Go.Lib.keeps l.toArray)).imp_of_mem ?_)
    intro i j hi hj hij
    rw [List.mem_filter, List.mem_range] at hi hj
    have hk := hj.2
    unfold Go.Lib.keeps at hk
    rw [decide_eq_true_eq] at hk
    have h1 : l.toArray[j]! ≠ l.toArray[j - 1]! := hk.resolve_left (by omega)
    rw [hg j hj.1, hg (j - 1) (by omega)] at h1
    rw [hg i hi.1, hg j hj.1]
    have h2 := hs (j - 1) j (by omega) hj.1 (by omega)
    by_cases e : i = j - 1
    · subst e
      omega
    · have h3 := hs i (j - 1) (by omega) (by omega) (by omega)
      omega
  · intro x
    unfold Go.Lib.compact Go.Lib.compactUpTo
    rw [List.mem_map]
    constructor
    · rintro ⟨i, hi, rfl⟩
      rw [List.mem_filter, List.mem_range] at hi
      rw [hg i hi.1]
      exact List.getElem_mem hi.1
    · intro hx
      obtain ⟨i, hi, rfl⟩ := List.mem_iff_getElem.1 hx
      have key : ∀ i (hi : i < l.length), ∃ j, j < l.length ∧ Go.Lib.keeps l.toArray j = true ∧ l.toArray[j]! = l[i] := by
        intro i
        induction i with
        | zero => exact fun hi => ⟨0, hi, by unfold Go.Lib.keeps; simp, hg 0 hi⟩
        | succ i ih =>
          intro hi
          by_cases e : l[i + 1] = l[i]
          · obtain ⟨j, a, b, c⟩ := ih (by omega)
            exact ⟨j, a, b, c.trans e.symm⟩
          · refine ⟨i + 1, hi, ?_, hg _ hi⟩
            unfold Go.Lib.keeps
            rw [decide_eq_true_eq]
            right
            rw [hg _ hi, show i + 1 - 1 = i from rfl, hg i (by omega)]
            exact e
      obtain ⟨j, a, b, c⟩ := key i hi
      exact ⟨j, List.mem_filter.2 ⟨List.mem_range.2 a, b⟩, c⟩
theorem pdq_nil (k : Nat) (t : Int) : ((slices_pdqsortOrdered_int.f (k + 1 + 1 + 1) [] 0 0 t).bind fun t => some t) = some [] := by
  have w0 : wrap64 (0 - 0) = 0 := wrap64_small (n := 0 - 0) (by omega) (by omega)
  have w1 : wrap64 (0 + 1) = 1 := wrap64_small (n := 0 + 1) (by omega) (by omega)
  unfold slices_pdqsortOrdered_int.f
  simp only [slices_pdqsortOrdered_int.l0, slices_insertionSortOrdered_int.f, slices_insertionSortOrdered_int.l0]
  rw [w0, w1]
  simp
theorem sort_f (k : Nat) (l : List Int) (hl : l.length ≤ 1000000) (hk : 5 < k) : ∃ t, slices_Sort_int_int.f k l = some t ∧ t.Pairwise (· ≤ ·) ∧ (∀ x, x ∈ t ↔ x ∈ l) ∧ t.length = l.length := by
  obtain ⟨k, rfl⟩ : ∃ m, k = m + 1 + 1 + 1 := ⟨k - 3, by omega⟩
  unfold slices_Sort_int_int.f
  by_cases h : l.length = 0
  · obtain rfl := List.length_eq_zero_iff.1 h
    rw [if_pos (show ([] : List Int).length = 0 from rfl)]
    refine ⟨[], ?_, List.Pairwise.nil, fun x => Iff.rfl, rfl⟩
    unfold slices_Sort_int_int_small.f bits_Len.f
    have hw : IntKind.u64.wrap ((([] : List Int).length : Nat) : Int) = 0 := rfl
    rw [hw, if_pos (by decide), Option.bind_some]
    have e0 : ((([] : List Int).length : Nat) : Int) = 0 := rfl
    rw [e0]
    exact pdq_nil k _
  · rw [if_neg h, if_pos (by omega)]
    have hp := List.mergeSort_perm l (fun x y => decide (x ≤ y))
    refine ⟨_, rfl, (List.pairwise_mergeSort (le := fun x y : Int => decide (x ≤ y)) ?_ ?_ l).imp ?_, fun x => hp.mem_iff, List.length_mergeSort _⟩
    · intro a b c h1 h2
      simp only [decide_eq_true_eq] at *
      omega
    · intro a b
      simp only [Bool.or_eq_true, decide_eq_true_eq]
      omega
    · intro a b h
      simpa using h
theorem sortCompact (k : Nat) (l : List Int) (hl : l.length ≤ 1000000) (hk : 5 < k) : ∃ r, ((slices_Sort_int_int.f k l).bind fun t => (slices_Compact_int_int.f k t).bind fun t' => some t') = some r ∧ r.Pairwise (· < ·) ∧ ∀ x, x ∈ r ↔ x ∈ l := by
  obtain ⟨t, h1, h2, h3, h4⟩ := sort_f k l hl hk
  obtain ⟨c1, c2⟩ := compact_sorted t h2
  refine ⟨Go.Lib.compact t, ?_, c1, fun x => (c2 x).trans (h3 x)⟩
  rw [h1, Option.bind_some]
  unfold slices_Compact_int_int.f
  rw [if_pos (by omega)]
  rfl
/-- The registers that an instruction reads: members. -/
def isRead (u v : Bool) (a b x : Int) : Prop := (u = true ∧ x = a) ∨ (v = true ∧ x = b)
theorem nf : ¬ ((false : Bool) = true) := by decide
theorem readsI (k : Nat) (hk : 20 < k) (o : ByteArray) (d a b m : Int) : ∃ r, impl_Instr_reads.f k o d a b m = some r ∧ r.Pairwise (· < ·) ∧ ∀ x, x ∈ r ↔ isRead (shape o.toList).1 (shape o.toList).2.1 a b x := by
  obtain ⟨s', e⟩ := formOf_f k (by omega) o
  obtain ⟨k, rfl⟩ : ∃ n, k = n + 1 := ⟨k - 1, by omega⟩
  unfold impl_Instr_reads.f
  rw [e, Option.bind_some, Option.bind_some]
  dsimp only
  generalize (shape o.toList).1 = u
  generalize (shape o.toList).2.1 = v
  simp only [impl_Instr_reads.j0]
  cases u with
  | true =>
    rw [if_pos rfl, if_pos (by simp)]
    cases v with
    | true =>
      rw [if_pos rfl, if_pos (by simp)]
      obtain ⟨r, h1, h2, h3⟩ := sortCompact k (([] ++ [a]) ++ [b]) (by simp) (by omega)
      exact ⟨r, h1, h2, fun x => (h3 x).trans (by simp [isRead])⟩
    | false =>
      rw [if_neg nf]
      obtain ⟨r, h1, h2, h3⟩ := sortCompact k ([] ++ [a]) (by simp) (by omega)
      exact ⟨r, h1, h2, fun x => (h3 x).trans (by simp [isRead])⟩
  | false =>
    rw [if_neg nf]
    cases v with
    | true =>
      rw [if_pos rfl, if_pos (by simp)]
      obtain ⟨r, h1, h2, h3⟩ := sortCompact k ([] ++ [b]) (by simp) (by omega)
      exact ⟨r, h1, h2, fun x => (h3 x).trans (by simp [isRead])⟩
    | false =>
      rw [if_neg nf]
      obtain ⟨r, h1, h2, h3⟩ := sortCompact k [] (by simp) (by omega)
      exact ⟨r, h1, h2, fun x => (h3 x).trans (by simp [isRead])⟩
theorem put_f (k : Nat) (l : List Int) (n : Int) (hp : l.Pairwise (· < ·)) (hl : l.length ≤ 1000) (hk : l.length < k) : ∃ r, spec_l1Put.f k l n = some r ∧ r.Pairwise (· < ·) ∧ ∀ x, x ∈ r ↔ x = n ∨ x ∈ l := by
  unfold spec_l1Put.f
  have hs := List.pairwise_iff_getElem.1 hp
  have ins : ∀ i, i ≤ l.length → (∀ j (hj : j < l.length), j < i → l[j] < n) → (∀ j (hj : j < l.length), i ≤ j → n < l[j]) → (([] ++ l.take i) ++ [n] ++ l.drop i).Pairwise (· < ·) ∧ ∀ x, x ∈ (([] ++ l.take i) ++ [n] ++ l.drop i) ↔ x = n ∨ x ∈ l := by
    intro i hi hlo hhi
    have hd : l = l.take i ++ l.drop i := (List.take_append_drop i l).symm
    have hlo' : ∀ x ∈ l.take i, x < n := fun x hx => by
      obtain ⟨j, hj, rfl⟩ := List.mem_iff_getElem.1 hx
      rw [List.length_take] at hj
      rw [List.getElem_take]
      exact hlo j (by omega) (by omega)
    have hhi' : ∀ x ∈ l.drop i, n < x := fun x hx => by
      obtain ⟨j, hj, rfl⟩ := List.mem_iff_getElem.1 hx
      rw [List.length_drop] at hj
      rw [List.getElem_drop]
      exact hhi (i + j) (by omega) (by omega)
    constructor
    · rw [List.nil_append, List.pairwise_append, List.pairwise_append]
      have hpp := hp
      rw [hd, List.pairwise_append] at hpp
      refine ⟨⟨hpp.1, List.pairwise_singleton _ _, fun x hx y hy => ?_⟩, hpp.2.1, fun x hx y hy => ?_⟩
      · rw [List.mem_singleton.1 hy]
        exact hlo' x hx
      · rcases List.mem_append.1 hx with hx | hx
        · exact hpp.2.2 x hx y hy
        · rw [List.mem_singleton.1 hx]
          exact hhi' y hy
    · intro x
      have : x ∈ l ↔ x ∈ l.take i ∨ x ∈ l.drop i := by
        rw [← List.mem_append, ← hd]
      rw [List.nil_append, List.mem_append, List.mem_append, List.mem_singleton, this]
      constructor
      · rintro ((h | h) | h)
        · exact .inr (.inl h)
        · exact .inl h
        · exact .inr (.inr h)
      · rintro (h | h | h)
        · exact .inl (.inr h)
        · exact .inl (.inl h)
        · exact .inr h
  obtain ⟨r, hr, hq⟩ := some_loop (fun k (_ : Unit) i => spec_l1Put.l0 k l n i) l.length (by omega) 0 (fun i _ => ∀ j (hj : j < l.length), j < i → l[j] < n) (fun r => r.Pairwise (· < ·) ∧ ∀ x, x ∈ r ↔ x = n ∨ x ∈ l)
    (fun k i s _ hi hI => by
      by_cases h1 : l[i] < n
      · refine .inr ⟨(), ?_, fun j hj hji => ?_⟩
        · simp only [spec_l1Put.l0]
          rw [if_pos (by omega), if_pos (by omega), rdN l i hi, if_pos h1]
        · by_cases e : j = i
          · subst e; exact h1
          · exact hI j hj (by omega)
      · by_cases h2 : l[i] = n
        · refine .inl ⟨l, ?_, hp, fun x => ⟨.inr, fun h => h.elim (fun e => by rw [e, ← h2]; exact List.getElem_mem hi) id⟩⟩
          simp only [spec_l1Put.l0]
          rw [if_pos (by omega), if_pos (by omega), rdN l i hi, if_neg h1, if_pos h2]
        · refine .inl ⟨_, ?_, ins i (by omega) hI (fun j hj hij => ?_)⟩
          · simp only [spec_l1Put.l0]
            rw [if_pos (by omega), if_pos (by omega), rdN l i hi, if_neg h1, if_neg h2, Option.bind_some, if_pos (by omega), Option.bind_some, if_pos (by simp; omega), Option.bind_some, if_pos (by simp; omega), Option.bind_some, Option.bind_some, if_pos (by simp; omega)]
            simp only [Int.toNat_natCast]
          · by_cases e : j = i
            · subst e; omega
            · have := hs i j hi hj (by omega)
              omega)
    (fun k s _ hI => ⟨_, by
      simp only [spec_l1Put.l0]
      rw [if_neg (by omega), Option.bind_some, if_pos (by omega), if_pos (by omega), Option.bind_some, if_pos (by simp; omega), Option.bind_some, if_pos (by simp; omega), Option.bind_some, Option.bind_some, if_pos (by simp; omega)]
      simp only [Int.toNat_natCast], ins l.length (Nat.le_refl _) hI (fun j hj hij => by omega)⟩) l.length k 0 () (by omega) (by omega) (fun j _ h => by omega)
  exact ⟨r, hr, hq⟩
theorem readsS (k : Nat) (hk : 20 < k) (o : ByteArray) (d a b m : Int) : ∃ r, spec_cdReads.f k o d a b m = some r ∧ r.Pairwise (· < ·) ∧ ∀ x, x ∈ r ↔ isRead (shape o.toList).1 (shape o.toList).2.1 a b x := by
  unfold spec_cdReads.f
  rw [cdShape_f k (by omega) o, Option.bind_some]
  dsimp only
  generalize (shape o.toList).1 = u
  generalize (shape o.toList).2.1 = v
  cases u with
  | true =>
    obtain ⟨r, h1, h2, h3⟩ := put_f k [] a List.Pairwise.nil (by simp) (by simp; omega)
    rw [if_pos rfl, h1, Option.bind_some]
    cases v with
    | true =>
      have hl : r.length ≤ 1 := by
        have e := uniq r [a] h2 (by simp) (fun x => by rw [h3]; simp)
        rw [e]; simp
      obtain ⟨q, g1, g2, g3⟩ := put_f k r b h2 (by omega) (by omega)
      rw [if_pos rfl, g1, Option.bind_some]
      refine ⟨q, rfl, g2, fun x => ?_⟩
      rw [g3, h3]
      simp only [isRead, List.not_mem_nil, or_false, true_and]
      exact or_comm
    | false =>
      rw [if_neg nf]
      refine ⟨r, rfl, h2, fun x => ?_⟩
      rw [h3]
      simp [isRead]
  | false =>
    rw [if_neg nf]
    cases v with
    | true =>
      obtain ⟨r, h1, h2, h3⟩ := put_f k [] b List.Pairwise.nil (by simp) (by simp; omega)
      rw [if_pos rfl, h1, Option.bind_some]
      refine ⟨r, rfl, h2, fun x => ?_⟩
      rw [h3]
      simp [isRead]
    | false =>
      rw [if_neg nf]
      exact ⟨[], rfl, List.Pairwise.nil, fun x => by simp [isRead]⟩
/-- Registers, strictly increasing. -/
def Want (L : List Int) : Prop := L.Pairwise (· < ·) ∧ ∀ r ∈ L, 0 ≤ r ∧ r ≤ 5
theorem want_len {L : List Int} (h : Want L) : L.length ≤ 6 := by
  have hs := List.pairwise_iff_getElem.1 h.1
  have key : ∀ i (hi : i < L.length), (i : Int) ≤ L[i] := by
    intro i
    induction i with
    | zero => exact fun hi => (h.2 _ (List.getElem_mem hi)).1
    | succ i ih =>
      intro hi
      have := ih (by omega)
      have := hs i (i + 1) (by omega) hi (by omega)
      omega
  by_cases h0 : L.length = 0
  · omega
  · have h1 := key (L.length - 1) (by omega)
    have h2 := (h.2 _ (List.getElem_mem (show L.length - 1 < L.length by omega))).2
    omega
theorem wantedL_iff (l : List Int) : wantedL l = true ↔ Want l := by
  unfold wantedL Want
  rw [Bool.and_eq_true, decide_eq_true_eq, List.all_eq_true]
  exact ⟨fun h => ⟨h.1, fun r hr => reg_iff.1 (h.2 r hr)⟩, fun h => ⟨h.1, fun r hr => reg_iff.2 (h.2 r hr)⟩⟩
theorem good_parts {o : List UInt8} {d a b m : Int} (h : goodI o d a b m = true) : reg d = true ∧ ((shape o).1 = true → reg a = true) ∧ ((shape o).2.1 = true → reg b = true) := by
  unfold goodI at h
  simp only [Bool.and_eq_true, Bool.or_eq_true, beq_iff_eq] at h
  obtain ⟨_, _, hd, ha, hb⟩ := h
  exact ⟨hd, fun u => ha.elim (fun h => h.2) (fun e => by rw [e]; rfl), fun u => hb.elim (fun h => h.2) (fun e => by rw [e]; rfl)⟩
/-- What is alive before an instruction: members. -/
def isBefore (o : List UInt8) (d a b : Int) (L : List Int) (x : Int) : Prop := isRead (shape o).1 (shape o).2.1 a b x ∨ (x ∈ L ∧ x ≠ d)
theorem isBefore_reg {o : List UInt8} {d a b m : Int} (hg : goodI o d a b m = true) {L : List Int} (hL : Want L) {x : Int} (h : isBefore o d a b L x) : 0 ≤ x ∧ x ≤ 5 := by
  obtain ⟨_, ha, hb⟩ := good_parts hg
  rcases h with (⟨u, rfl⟩ | ⟨v, rfl⟩) | ⟨h, _⟩
  · exact reg_iff.1 (ha u)
  · exact reg_iff.1 (hb v)
  · exact hL.2 x h
theorem beforeI (k : Nat) (hk : 30 < k) (o : ByteArray) (d a b m : Int) (hg : goodI o.toList d a b m = true) (L : List Int) (hL : Want L) : ∃ r, impl_Instr_before.f k o d a b m L = some r ∧ Want r ∧ ∀ x, x ∈ r ↔ isBefore o.toList d a b L x := by
  have hl := want_len hL
  unfold impl_Instr_before.f
  have hcl : slices_Clone_int_int.f L = some L := by
    unfold slices_Clone_int_int.f
    rw [Option.bind_some, if_pos (by simp; omega), List.nil_append]
  have hdel : slices_DeleteFunc_int_int_impl_Instr_before_c1.f k L d = some (L.filter fun x => !(x == d)) := by
    unfold slices_DeleteFunc_int_int_impl_Instr_before_c1.f
    rw [if_pos (by omega)]
  obtain ⟨q, q1, q2, q3⟩ := readsI k (by omega) o d a b m
  have hq : Want q := ⟨q2, fun x hx => isBefore_reg hg hL (.inl ((q3 x).1 hx))⟩
  have hql := want_len hq
  have hfl := List.length_filter_le (fun x => !(x == d)) L
  rw [hcl, Option.bind_some, hdel, Option.bind_some, q1, Option.bind_some, if_pos (by omega)]
  obtain ⟨r, r1, r2, r3⟩ := sortCompact k ((L.filter fun x => !(x == d)) ++ q) (by rw [List.length_append]; omega) (by omega)
  have hm : ∀ x, x ∈ r ↔ isBefore o.toList d a b L x := fun x => by
    rw [r3, List.mem_append, List.mem_filter, q3]
    simp only [Bool.not_eq_true', beq_eq_false_iff_ne]
    exact or_comm
  exact ⟨r, r1, ⟨r2, fun x hx => isBefore_reg hg hL ((hm x).1 hx)⟩, hm⟩
theorem beforeS (k : Nat) (hk : 30 < k) (o : ByteArray) (d a b m : Int) (hg : goodI o.toList d a b m = true) (L : List Int) (hL : Want L) : ∃ r, spec_cdBefore.f k o d a b m L = some r ∧ Want r ∧ ∀ x, x ∈ r ↔ isBefore o.toList d a b L x := by
  have hl := want_len hL
  unfold spec_cdBefore.f
  obtain ⟨q, q1, q2, q3⟩ := readsS k (by omega) o d a b m
  have hq : Want q := ⟨q2, fun x hx => isBefore_reg hg hL (.inl ((q3 x).1 hx))⟩
  rw [q1, Option.bind_some]
  obtain ⟨r, hr, h1, h2⟩ := some_loop (fun k s i => spec_cdBefore.l0 k s L (L.length : Int) i o d a b m) L.length (by omega) 10 (fun i s => s.Pairwise (· < ·) ∧ ∀ x, x ∈ s ↔ isRead (shape o.toList).1 (shape o.toList).2.1 a b x ∨ (x ∈ L.take i ∧ x ≠ d)) (fun r => r.Pairwise (· < ·) ∧ ∀ x, x ∈ r ↔ isBefore o.toList d a b L x)
    (fun k i s hk hi hI => by
      have ht : ∀ x, x ∈ L.take (i + 1) ↔ x ∈ L.take i ∨ x = L[i] := fun x => by
        rw [List.take_succ_eq_append_getElem hi, List.mem_append, List.mem_singleton]
      have hws : Want s := ⟨hI.1, fun x hx => isBefore_reg hg hL (((hI.2 x).1 hx).elim .inl (fun h => .inr ⟨List.mem_of_mem_take h.1, h.2⟩))⟩
      have hsl := want_len hws
      by_cases hd : L[i] = d
      · refine .inr ⟨s, ?_, hI.1, fun x => ?_⟩
        · simp only [spec_cdBefore.l0]
          rw [if_pos (by omega), if_pos (by omega), if_pos (by omega), rdN L i hi, if_pos hd]
        · rw [hI.2, ht]
          constructor
          · rintro (h | ⟨h, e⟩)
            · exact .inl h
            · exact .inr ⟨.inl h, e⟩
          · rintro (h | ⟨h | h, e⟩)
            · exact .inl h
            · exact .inr ⟨h, e⟩
            · exact absurd (h.trans hd) e
      · obtain ⟨s', p1, p2, p3⟩ := put_f k s L[i] hI.1 (by omega) (by omega)
        refine .inr ⟨s', ?_, p2, fun x => ?_⟩
        · simp only [spec_cdBefore.l0]
          rw [if_pos (by omega), if_pos (by omega), if_pos (by omega), rdN L i hi, if_neg hd, p1, Option.bind_some]
        · rw [p3, hI.2, ht]
          constructor
          · rintro (h | h | ⟨h, e⟩)
            · exact .inr ⟨.inr h, by rw [h]; exact hd⟩
            · exact .inl h
            · exact .inr ⟨.inl h, e⟩
          · rintro (h | ⟨h | h, e⟩)
            · exact .inr (.inl h)
            · exact .inr (.inr ⟨h, e⟩)
            · exact .inl h)
    (fun k s _ hI => ⟨s, by simp only [spec_cdBefore.l0]; rw [if_neg (by omega)], hI.1, fun x => by rw [hI.2, List.take_of_length_le (Nat.le_refl _)]; rfl⟩) L.length k 0 q (by omega) (by omega) ⟨q2, fun x => by rw [q3]; simp⟩
  exact ⟨r, hr, ⟨h1, fun x hx => isBefore_reg hg hL ((h2 x).1 hx)⟩, h2⟩
theorem before_both (k j : Nat) (hk : 30 < k) (hj : 30 < j) (o : ByteArray) (d a b m : Int) (hg : goodI o.toList d a b m = true) (L : List Int) (hL : Want L) : ∃ r, impl_Instr_before.f j o d a b m L = some r ∧ spec_cdBefore.f k o d a b m L = some r ∧ Want r := by
  obtain ⟨r, r1, r2, r3⟩ := beforeI j hj o d a b m hg L hL
  obtain ⟨q, q1, q2, q3⟩ := beforeS k hk o d a b m hg L hL
  obtain rfl := uniq r q r2.1 q2.1 (fun x => (r3 x).trans (q3 x).symm)
  exact ⟨r, r1, q1, r2⟩
end Go.Proofs.Ytecmlikhmkcdpaa.PureOps
