/- Which nodes are used, and which lists are expressions. Plain. -/
import Derived.Test.YtlcplhcccgbmnaaUPureTree
namespace Go.Proofs.Ytlcplhcccgbmnaa.PureOps
open Go.RowKit Go.Proofs.Ytlcplhcccgbmnaa.D Go.Proofs.YtlcplhcccgbmnaaW.PrintWords Go.Proofs.YtlcplhcccgbmnaaW.PrintLast Go.Proofs.YtlcplhcccgbmnaaW.PrintMore
set_option linter.unusedVariables false
set_option linter.unusedSimpArgs false
theorem inc_pos {B : Int} {u : List Int} (h : upTo B u) (h0 : 0 ≤ B) (h1 : B ≤ 1000000) (p q : Int) (hp : 0 ≤ p) (hp2 : p < (u.length : Int)) (hq : 0 ≤ q) : 0 < rd (inc u p) q ↔ 0 < rd u q ∨ p = q := by
 have hb := rd_upTo h h0 p
 unfold inc
 rw [wrap64_small (by omega) (by omega)]
 by_cases hpq : p = q
 ·subst hpq
  have e : rd (u.set p.toNat (rd u p + 1)) p = rd u p + 1 := by
   unfold rd
   have : p.toNat < u.length := by omega
   simp [List.getD_eq_getElem?_getD, this]
  rw [e]
  exact ⟨fun _ => .inr rfl, fun _ => by omega⟩
 ·have e : rd (u.set p.toNat (rd u p + 1)) q = rd u q := by
   unfold rd
   have : p.toNat ≠ q.toNat := by omega
   simp [List.getD_eq_getElem?_getD, List.getElem?_set_ne this]
  rw [e]
  exact ⟨fun h => .inl h, fun h => h.resolve_right hpq⟩
theorem inc_len (u : List Int) (p : Int) : (inc u p).length = u.length := by unfold inc; rw [List.length_set]
theorem incs_len (ps : List Int) : ∀ u : List Int, (ps.foldl inc u).length = u.length := by
 induction ps with
 | nil => intro u; rfl
 | cons p ps ih => intro u; rw [List.foldl_cons, ih, inc_len]
theorem incs_pos (ps : List Int) : ∀ {B : Int} {u : List Int}, upTo B u → 0 ≤ B → B + ps.length ≤ 1000000 → (∀ p ∈ ps, 0 ≤ p ∧ p < (u.length : Int)) → ∀ q : Int, 0 ≤ q → (0 < rd (ps.foldl inc u) q ↔ 0 < rd u q ∨ q ∈ ps) := by
 induction ps with
 | nil => intro B u _ _ _ _ q _; simp
 | cons p ps ih =>
  intro B u h h0 h1 hp q hq
  rw [List.length_cons] at h1
  rw [List.foldl_cons, ih (inc_upTo h h0 (by omega) p) (by omega) (by omega) (fun p' hp' => by rw [inc_len]; exact hp p' (List.mem_cons_of_mem _ hp')) q hq, inc_pos h h0 (by omega) p q (hp p (List.mem_cons_self ..)).1 (hp p (List.mem_cons_self ..)).2 hq]
  constructor
  ·rintro ((h | h) | h)
   ·exact .inl h
   ·exact .inr (by rw [h]; exact List.mem_cons_self ..)
   ·exact .inr (List.mem_cons_of_mem _ h)
  ·rintro (h | h)
   ·exact .inl (.inl h)
   ·rcases List.mem_cons.1 h with h | h
    ·exact .inl (.inr h.symm)
    ·exact .inr h
theorem uses_fold (ys : List INode) : ∀ {B : Int} {u : List Int}, upTo B u → 0 ≤ B → B + 2 * ys.length ≤ 1000 → (∀ n ∈ ys, ∀ p ∈ partsOf n, 0 ≤ p ∧ p < (u.length : Int)) → ∀ q : Int, 0 ≤ q →
  (0 < rd (ys.foldl (fun u n => (partsOf n).foldl inc u) u) q ↔ 0 < rd u q ∨ ∃ n ∈ ys, q ∈ partsOf n) := by
 induction ys with
 | nil => intro B u _ _ _ _ q _; simp
 | cons y ys ih =>
  intro B u h h0 h1 hp q hq
  rw [List.length_cons] at h1
  have hl : (partsOf y).length ≤ 2 := parts_len _ _ _
  have h2 : upTo (B + 2) ((partsOf y).foldl inc u) := upTo_mono (incs_upTo (partsOf y) h h0 (by omega)) (by omega)
  rw [List.foldl_cons, ih h2 (by omega) (by omega) (fun n hn p hpn => by rw [incs_len]; exact hp n (List.mem_cons_of_mem _ hn) p hpn) q hq, incs_pos (partsOf y) h h0 (by omega) (hp y (List.mem_cons_self ..)) q hq]
  constructor
  ·rintro ((h | h) | ⟨n, h, h'⟩)
   ·exact .inl h
   ·exact .inr ⟨y, List.mem_cons_self .., h⟩
   ·exact .inr ⟨n, List.mem_cons_of_mem _ h, h'⟩
  ·rintro (h | ⟨n, h, h'⟩)
   ·exact .inl (.inl h)
   ·rcases List.mem_cons.1 h with h | h
    ·subst h; exact .inl (.inr h')
    ·exact .inr ⟨n, h, h'⟩
theorem used_iff (xs : List INode) (hok : okAll xs) (hn : xs.length ≤ 48) (q : Int) (hq : 0 ≤ q) : 0 < rd (usesL xs) q ↔ ∃ n ∈ xs, q ∈ partsOf n := by
 unfold usesL
 have hz : upTo 0 (List.replicate xs.length (0 : Int)) := fun x hx => by rw [List.mem_replicate] at hx; omega
 have hr : rd (List.replicate xs.length (0 : Int)) q = 0 := by
  have := rd_upTo hz (by omega) q
  omega
 rw [uses_fold xs hz (by omega) (by omega) (fun n hn p hp => by
  obtain ⟨j, hj, rfl⟩ := List.mem_iff_getElem.1 hn
  have := parts_lt (hok j hj) p hp
  rw [List.length_replicate]
  omega) q hq, hr]
 simp
theorem rd_take {u : List Int} {m : Nat} (hm : m ≤ u.length) : (u.take m).contains 0 = false ↔ ∀ q : Nat, q < m → rd u (q : Int) ≠ 0 := by
 have key : (u.take m).contains 0 = true ↔ ∃ q : Nat, q < m ∧ rd u (q : Int) = 0 := by
  rw [List.contains_iff_mem, List.mem_iff_getElem]
  constructor
  ·rintro ⟨q, hq, h⟩
   have hq' : q < m := by rw [List.length_take] at hq; omega
   refine ⟨q, hq', ?_⟩
   rw [List.getElem_take] at h
   unfold rd
   simp [List.getD_eq_getElem?_getD, show q < u.length by omega, h]
  ·rintro ⟨q, hq, h⟩
   refine ⟨q, by rw [List.length_take]; omega, ?_⟩
   rw [List.getElem_take]
   unfold rd at h
   simpa [List.getD_eq_getElem?_getD, show q < u.length by omega] using h
 constructor
 ·intro h q hq e
  have := key.2 ⟨q, hq, e⟩
  rw [h] at this; cases this
 ·intro h
  rw [Bool.eq_false_iff]
  intro e
  obtain ⟨q, hq, e'⟩ := key.1 e
  exact h q hq e'
theorem isE_used {xs : List INode} (h : isE xs = true) (q : Nat) (hq : q < xs.length - 1) : ∃ n ∈ xs, (q : Int) ∈ partsOf n := by
 obtain ⟨n1, n2, hok⟩ := isE_true h
 unfold isE at h
 simp only [Bool.and_eq_true, decide_eq_true_eq, Bool.not_eq_true'] at h
 have hc := (rd_take (u := usesL xs) (by rw [usesL_length]; omega)).1 h.2.2 q hq
 have hb := rd_upTo (uses_upTo xs n2) (by omega) (q : Int)
 exact (used_iff xs hok (by omega) (q : Int) (by omega)).1 (by omega)
theorem isE_mk {xs : List INode} (n1 : 1 ≤ xs.length) (n2 : xs.length ≤ 24) (hok : okAll xs) (h : ∀ q : Nat, q < xs.length - 1 → ∃ n ∈ xs, (q : Int) ∈ partsOf n) : isE xs = true := by
 have hc : ((usesL xs).take (xs.length - 1)).contains 0 = false := (rd_take (u := usesL xs) (by rw [usesL_length]; omega)).2 (fun q hq => by
  have := (used_iff xs hok (by omega) (q : Int) (by omega)).2 (h q hq)
  omega)
 unfold isE
 simp only [Bool.and_eq_true, decide_eq_true_eq, Bool.not_eq_true']
 exact ⟨⟨n1, n2⟩, hok, hc⟩
end Go.Proofs.Ytlcplhcccgbmnaa.PureOps
