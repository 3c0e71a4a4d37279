/- Which expressions are trees: the program and the reference tell the same. -/
import Derived.Test.YtlcplhcccgbmnaaUPureIsExpr0
import Derived.Test.YtlcplhcccgbmnaaDAll
namespace Go.Proofs.Ytlcplhcccgbmnaa.PureOps
open Go.RowKit Go.Proofs.Ytlcplhcccgbmnaa.D Go.Proofs.YtlcplhcccgbmnaaW.PrintWords Go.Proofs.YtlcplhcccgbmnaaW.PrintLast Go.Proofs.YtlcplhcccgbmnaaW.PrintMore
set_option linter.unusedVariables false
def upTo (B : Int) (u : List Int) : Prop := ∀ x ∈ u, 0 ≤ x ∧ x ≤ B
theorem rd_upTo {B : Int} {u : List Int} (h : upTo B u) (h0 : 0 ≤ B) (p : Int) : 0 ≤ rd u p ∧ rd u p ≤ B := by
 unfold rd
 rw [List.getD_eq_getElem?_getD]
 by_cases hp : p.toNat < u.length
 ·rw [List.getElem?_eq_getElem hp]
  exact h _ (List.getElem_mem hp)
 ·rw [List.getElem?_eq_none (by omega)]
  exact ⟨by simp, by simpa using h0⟩
theorem inc_upTo {B : Int} {u : List Int} (h : upTo B u) (h0 : 0 ≤ B) (h1 : B ≤ 1000000) (p : Int) : upTo (B + 1) (inc u p) := by
 intro x hx
 have hr := rd_upTo h h0 p
 unfold inc at hx
 rcases List.mem_or_eq_of_mem_set hx with hx | rfl
 ·have := h x hx; omega
 ·rw [wrap64_small (by omega) (by omega)]; omega
theorem incs_upTo (ps : List Int) : ∀ {B : Int} {u : List Int}, upTo B u → 0 ≤ B → B + ps.length ≤ 1000000 → upTo (B + ps.length) (ps.foldl inc u) := by
 induction ps with
 | nil => intro B u h _ _; simpa using h
 | cons p ps ih =>
  intro B u h h0 h1
  rw [List.foldl_cons]
  have h2 : B + 1 + (ps.length : Int) ≤ 1000000 := by simp at h1; omega
  have := ih (inc_upTo h h0 (by omega) p) (by omega) h2
  rw [List.length_cons]
  rw [show B + ((ps.length + 1 : Nat) : Int) = B + 1 + ps.length by omega]
  exact this
theorem upTo_mono {B C : Int} {u : List Int} (h : upTo B u) (hc : B ≤ C) : upTo C u := fun x hx => by have := h x hx; omega
theorem uses_upTo (xs : List INode) (hn : xs.length ≤ 24) : upTo 48 (usesL xs) := by
 unfold usesL
 have main : ∀ (ys : List INode) (B : Int) (u : List Int), upTo B u → 0 ≤ B → B + 2 * ys.length ≤ 1000 → upTo (B + 2 * ys.length) (ys.foldl (fun u n => (partsOf n).foldl inc u) u) := by
  intro ys
  induction ys with
  | nil => intro B u h _ _; simpa using h
  | cons y ys ih =>
   intro B u h h0 h1
   rw [List.foldl_cons]
   have hl : (partsOf y).length ≤ 2 := parts_len _ _ _
   simp only [List.length_cons] at h1
   have h2 : upTo (B + 2) ((partsOf y).foldl inc u) := upTo_mono (incs_upTo (partsOf y) h h0 (by omega)) (by omega)
   have := ih (B + 2) _ h2 (by omega) (by omega)
   rw [List.length_cons, show B + 2 * ((ys.length + 1 : Nat) : Int) = B + 2 + 2 * ys.length by omega]
   exact this
 exact upTo_mono (main xs 0 (List.replicate xs.length 0) (fun x hx => by rw [List.mem_replicate] at hx; omega) (by omega) (by omega)) (by omega)
/-- Each node at most once. -/
def once (xs : List INode) : Bool := (usesL xs).all fun x => decide ((0 : Int) ≤ x) && decide (x ≤ 1)
end Go.Proofs.Ytlcplhcccgbmnaa.PureOps
