/- Marks laid into the rows of a list of lists, as the laws do. Plain. -/
import Derived.Test.YtecmlikhmkcdpaaYLoops
import Derived.Test.YtecmlikhmkcdpaaGApart
namespace Go.Proofs.Ytecmlikhmkcdpaa.PureOps
open Go.RowKit Go.Proofs.Ytecmlikhmkcdpaa.G Go.Proofs.YtecmlikhmkcdpaaW.PrintWords Go.Proofs.YtecmlikhmkcdpaaW.PrintLast Go.Proofs.YtecmlikhmkcdpaaW.PrintMore
set_option linter.unusedVariables false
set_option linter.unusedSimpArgs false
theorem rdR (xs : List Int) (i : Nat) (h : i < xs.length) : rd xs (i : Int) = xs[i] := by
  simp [rd, List.getD_eq_getElem?_getD, h]
theorem rdRows (xs : List (List Int)) (i : Nat) : rd_L5 xs (i : Int) = rowOf xs i := by
  unfold rd_L5 rowOf
  rw [Int.toNat_natCast]
def seqL (s : Int) (n : Nat) : List Int := (List.range n).map fun (j : Nat) => s + (j : Int)
theorem seqL_len (s : Int) (n : Nat) : (seqL s n).length = n := by simp [seqL]
theorem seqL_at (s : Int) (n j : Nat) (h : j < n) : (seqL s n)[j]? = some (s + (j : Int)) := by
  unfold seqL
  rw [List.getElem?_map, List.getElem?_range h]
  rfl
theorem markIntS_g (k : Nat) (xs : List Int) (s0 : Int) (h0 : 0 ≤ s0) (h1 : s0 ≤ 1000000000000) (hn : xs.length ≤ 1000) (hk : xs.length < k) : laws_markIntS.f k xs s0 = some (s0 + (xs.length : Int), seqL s0 xs.length) := by
  unfold laws_markIntS.f
  obtain ⟨r, hr, q1, q2, q3⟩ := some_loop (fun k (s : List Int × Int) i => laws_markIntS.l0 k s.1 s.2 i) xs.length (by omega) 0 (fun i s => s.1.length = xs.length ∧ s.2 = s0 + (i : Int) ∧ ∀ j, j < i → s.1[j]? = some (s0 + (j : Int))) (fun r => r.1 = s0 + (xs.length : Int) ∧ r.2.length = xs.length ∧ ∀ j, j < xs.length → r.2[j]? = some (s0 + (j : Int)))
    (fun k i s _ hi hI => .inr ⟨(s.1.set i s.2, s.2 + 1), by
      simp only [laws_markIntS.l0]
      rw [if_pos (by omega), if_pos (by omega), Int.toNat_natCast, wrap64_small (n := s.2 + 1) (by omega) (by omega)], by simp [hI.1], by show s.2 + 1 = s0 + ((i + 1 : Nat) : Int); omega, fun j hj => by
      by_cases e : j = i
      · subst e
        show (s.1.set j s.2)[j]? = _
        rw [List.getElem?_set_self (by omega), hI.2.1]
      · show (s.1.set i s.2)[j]? = _
        rw [List.getElem?_set_ne (fun h => e h.symm)]
        exact hI.2.2 j (by omega)⟩)
    (fun k s _ hI => ⟨(s.2, s.1), by simp only [laws_markIntS.l0]; rw [if_neg (by omega)], hI.2.1, hI.1, hI.2.2⟩) xs.length k 0 (xs, s0) (by omega) (by omega) ⟨rfl, by simp, fun j hj => by omega⟩
  have e : r = (s0 + (xs.length : Int), seqL s0 xs.length) := by
    refine Prod.ext q1 ?_
    apply List.ext_getElem?
    intro j
    by_cases h : j < xs.length
    · rw [q3 j h, seqL_at _ _ _ h]
    · rw [List.getElem?_eq_none (by omega), List.getElem?_eq_none (by rw [seqL_len]; omega)]
  rw [← e]
  exact hr
theorem heldIntS_g (k n : Nat) (s0 : Int) (h0 : 0 ≤ s0) (h1 : s0 ≤ 1000000000000) (hn : n ≤ 1000) (hk : n < k) : laws_heldIntS.f k (seqL s0 n) s0 = some (s0 + (n : Int)) := by
  unfold laws_heldIntS.f
  have hl := seqL_len s0 n
  obtain ⟨r, hr, hq⟩ := some_loop (fun k (s : Int) i => laws_heldIntS.l0 k (seqL s0 n) s i) n (by omega) 0 (fun i s => s = s0 + (i : Int)) (fun r => r = s0 + (n : Int))
    (fun k i s _ hi hI => .inr ⟨s + 1, by
      have h := seqL_at s0 n i hi
      rw [List.getElem?_eq_getElem (by omega)] at h
      simp only [laws_heldIntS.l0]
      rw [if_pos (by omega), if_pos (by omega), rdR _ i (by omega), if_pos (by rw [Option.some.inj h, hI]), wrap64_small (n := s + 1) (by omega) (by omega)], by show s + 1 = s0 + ((i + 1 : Nat) : Int); omega⟩)
    (fun k s _ hI => ⟨s, by simp only [laws_heldIntS.l0]; rw [if_neg (by omega)], hI⟩) n k 0 s0 (by omega) (by omega) (by simp)
  rw [← hq]; exact hr
/-- Where a row's marks begin. -/
def offs (r : List (List Int)) : Nat → Int
  | 0 => 1
  | i + 1 => offs r i + ((rowOf r i).length : Int)
def smallL (r : List (List Int)) : Prop := r.length ≤ 999 ∧ ∀ i, (rowOf r i).length ≤ 1000
theorem offs_small (r : List (List Int)) (h : smallL r) (i : Nat) : 1 ≤ offs r i ∧ offs r i ≤ 1 + 1000 * (i : Int) := by
  induction i with
  | zero => exact ⟨by show (1 : Int) ≤ 1; omega, by show (1 : Int) ≤ _; omega⟩
  | succ i ih =>
    have := h.2 i
    constructor
    · show 1 ≤ offs r i + ((rowOf r i).length : Int)
      omega
    · show offs r i + ((rowOf r i).length : Int) ≤ 1 + 1000 * ((i + 1 : Nat) : Int)
      omega
def markedL (r : List (List Int)) : List (List Int) := (List.range r.length).map fun i => seqL (offs r i) (rowOf r i).length
theorem markedL_len (r : List (List Int)) : (markedL r).length = r.length := by simp [markedL]
theorem markedL_row (r : List (List Int)) (i : Nat) (hi : i < r.length) : rowOf (markedL r) i = seqL (offs r i) (rowOf r i).length := by
  show (markedL r).getD i [] = _
  rw [List.getD_eq_getElem?_getD]
  unfold markedL
  rw [List.getElem?_map, List.getElem?_range hi]
  rfl
theorem marks_g (k : Nat) (r : List (List Int)) (h : smallL r) (hk : 1000 < k) : ∀ i, i < r.length → laws_markIntS.f k (rowOf r i) (offs r i) = some (offs r (i + 1), rowOf (markedL r) i) := by
  intro i hi
  have h1 := offs_small r h i
  have h2 := h.2 i
  have h3 := h.1
  rw [markedL_row r i hi, markIntS_g k _ _ (by omega) (by omega) h2 (by omega)]
  rfl
theorem held_g (k : Nat) (r : List (List Int)) (h : smallL r) (hk : 2100 < k) : laws_heldIntSS.f k (markedL r) 1 = some (offs r r.length) := by
  unfold laws_heldIntSS.f
  have hl := markedL_len r
  have h3 := h.1
  obtain ⟨q, hr, hq⟩ := some_loop (fun k (s : Int) i => laws_heldIntSS.l0 k (markedL r) s i) r.length (by omega) 1001 (fun i s => s = offs r i) (fun q => q = offs r r.length)
    (fun k i s hk hi hI => .inr ⟨offs r (i + 1), by
      have h1 := offs_small r h i
      have h2 := h.2 i
      have h4 := offs_small r h (i + 1)
      simp only [laws_heldIntSS.l0]
      rw [if_pos (by omega), if_pos (by omega), rdRows, markedL_row r i hi, hI, heldIntS_g k _ _ (by omega) (by omega) h2 (by omega), Option.bind_some]
      rw [show offs r i + ((rowOf r i).length : Int) = offs r (i + 1) from rfl, if_neg (by omega)], rfl⟩)
    (fun k s _ hI => ⟨s, by simp only [laws_heldIntSS.l0]; rw [if_neg (by omega)], hI⟩) r.length k 0 1 (by omega) (by omega) rfl
  rw [← hq]; exact hr
theorem eqRow_g (k : Nat) (xs : List Int) (hn : xs.length ≤ 1000) (hk : xs.length < k) : laws_eqIntS.f k xs xs = some true := by
  unfold laws_eqIntS.f
  rw [if_pos rfl]
  obtain ⟨q, hr, hq⟩ := some_loop (fun k (_ : Unit) i => laws_eqIntS.l0 k xs xs i) xs.length (by omega) 0 (fun i _ => True) (fun q => q = true)
    (fun k i s _ hi hI => .inr ⟨(), by
      simp only [laws_eqIntS.l0]
      rw [if_pos (by omega), if_pos (by omega), if_pos (by omega)]
      simp, trivial⟩)
    (fun k s _ hI => ⟨true, by simp only [laws_eqIntS.l0]; rw [if_neg (by omega)], rfl⟩) xs.length k 0 () (by omega) (by omega) trivial
  rw [← hq]; exact hr
theorem eqRows_g (k : Nat) (r : List (List Int)) (h : smallL r) (hk : 2100 < k) : laws_eqIntSS.f k r r = some true := by
  unfold laws_eqIntSS.f
  rw [if_pos rfl]
  have h3 := h.1
  obtain ⟨q, hr, hq⟩ := some_loop (fun k (_ : Unit) i => laws_eqIntSS.l0 k r r i) r.length (by omega) 1001 (fun i _ => True) (fun q => q = true)
    (fun k i s hk hi hI => .inr ⟨(), by
      have h2 := h.2 i
      simp only [laws_eqIntSS.l0]
      rw [if_pos (by omega), if_pos (by omega), if_pos (by omega), rdRows, eqRow_g k _ h2 (by omega), Option.bind_some, if_pos rfl], trivial⟩)
    (fun k s _ hI => ⟨true, by simp only [laws_eqIntSS.l0]; rw [if_neg (by omega)], rfl⟩) r.length k 0 () (by omega) (by omega) trivial
  rw [← hq]; exact hr
end Go.Proofs.Ytecmlikhmkcdpaa.PureOps
