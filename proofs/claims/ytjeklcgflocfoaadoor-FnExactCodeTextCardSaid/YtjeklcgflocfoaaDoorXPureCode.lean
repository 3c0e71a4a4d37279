/- Code: sizes, copies, and which code is right, as the program and the reference tell them. Plain. -/
import Derived.Test.YtjeklcgflocfoaaDoorXLoops
import Derived.Test.YtjeklcgflocfoaaDoorXPureGoodI
import Derived.Test.YtjeklcgflocfoaaDoorHLawCodeText
namespace Go.Proofs.YtjeklcgflocfoaaDoor.PureOps
open Go.RowKit Go.Proofs.YtjeklcgflocfoaaDoor.H Go.Proofs.YtjeklcgflocfoaaDoorW.PrintWords Go.Proofs.YtjeklcgflocfoaaDoorW.PrintLast Go.Proofs.YtjeklcgflocfoaaDoorW.PrintMore
set_option linter.unusedVariables false
set_option linter.unusedSimpArgs false

abbrev LInstr := S31
abbrev IInstr := S35
def convI (x : LInstr) : IInstr := ⟨x.f0, x.f1, x.f2, x.f3, x.f4⟩
theorem rdL (xs : List LInstr) (i : Nat) (h : i < xs.length) : rd_T31 xs (i : Int) = xs[i] := by
  unfold rd_T31
  simp [List.getD_eq_getElem?_getD, h]
theorem rdI (xs : List IInstr) (i : Nat) (h : i < xs.length) : rd_T35 xs (i : Int) = xs[i] := by
  unfold rd_T35
  simp [List.getD_eq_getElem?_getD, h]

theorem szInstr_f (a : ByteArray) (d x y m l : Int) (h0 : 0 ≤ l) (h1 : l ≤ 1048576) (hs : a.size ≤ 9223372036854775807) :
    laws_szInstr.f a d x y m l = if l - (a.size : Int) < 0 then some (-1) else some (l - (a.size : Int)) := by
  unfold laws_szInstr.f
  rw [wrap64_small (by omega) (by omega)]
theorem szInstrS_f (k : Nat) (xs : List LInstr) (l : Int) (h0 : 0 ≤ l) (h1 : l ≤ 1048576) (hn : xs.length ≤ 9223372036854775807) (hs : ∀ x ∈ xs, x.f0.size ≤ 9223372036854775807) (hk : xs.length < k) :
    ∃ r, laws_szInstrS.f k xs l = some r ∧ r ≤ 1048576 ∧ (0 ≤ r → xs.length ≤ l) := by
  unfold laws_szInstrS.f
  rw [wrap64_small (by omega) (by omega)]
  by_cases h : l - (xs.length : Int) < 0
  · exact ⟨-1, by rw [if_pos h], by omega, fun h => by omega⟩
  · rw [if_neg h]
    obtain ⟨r, hr, hq⟩ := some_loop (fun k s i => laws_szInstrS.l0 k xs s i) xs.length hn 0 (fun i s => 0 ≤ s ∧ s ≤ 1048576) (fun r => r ≤ 1048576)
      (fun k i s _ hi hI => by
        have hz := szInstr_f xs[i].f0 xs[i].f1 xs[i].f2 xs[i].f3 xs[i].f4 s hI.1 hI.2 (hs _ (List.getElem_mem hi))
        by_cases h : s - (xs[i].f0.size : Int) < 0
        · left
          refine ⟨-1, ?_, by omega⟩
          simp only [laws_szInstrS.l0]
          rw [if_pos (by omega), if_pos (by omega), rdL xs i hi, hz, if_pos h, Option.bind_some, if_pos (by omega)]
        · right
          refine ⟨s - (xs[i].f0.size : Int), ?_, by omega, by omega⟩
          simp only [laws_szInstrS.l0]
          rw [if_pos (by omega), if_pos (by omega), rdL xs i hi, hz, if_neg h, Option.bind_some, if_neg h])
      (fun k s _ hI => ⟨s, by simp only [laws_szInstrS.l0]; rw [if_neg (by omega)], hI.2⟩) xs.length k 0 (l - (xs.length : Int)) (by omega) (by omega) ⟨by omega, by omega⟩
    exact ⟨r, hr, hq, fun _ => by omega⟩
theorem toInstrS_f (k : Nat) (xs : List LInstr) (hn : xs.length ≤ 1048576) (hk : xs.length < k) : laws_toInstrS.f k xs = some (xs.map convI) := by
  unfold laws_toInstrS.f
  rw [if_pos (by omega), if_pos (by simp; omega)]
  obtain ⟨r, hr, hq⟩ := some_loop (fun k s i => laws_toInstrS.l0 k xs s i) xs.length (by omega) 0 (fun i (s : List IInstr) => s.length = xs.length ∧ ∀ j, j < i → s[j]? = (xs.map convI)[j]?) (fun r => r = xs.map convI)
    (fun k i s _ hi hI => by
      right
      refine ⟨s.set i (convI xs[i]), ?_, by simp [hI.1], fun j hj => ?_⟩
      · simp only [laws_toInstrS.l0, laws_toInstr.f, Option.bind_some]
        rw [if_pos (by omega), if_pos (by omega), if_pos (by omega), rdL xs i hi]
        simp only [Int.toNat_natCast]
        rfl
      · by_cases e : j = i
        · subst e
          rw [List.getElem?_set_self (by omega)]
          simp [hi]
        · rw [List.getElem?_set_ne (fun h => e h.symm)]
          exact hI.2 j (by omega))
    (fun k s _ hI => ⟨s, by simp only [laws_toInstrS.l0]; rw [if_neg (by omega)], by
      apply List.ext_getElem?
      intro j
      by_cases hj : j < xs.length
      · exact hI.2 j hj
      · rw [List.getElem?_eq_none (by omega), List.getElem?_eq_none (by simp; omega)]⟩) xs.length k 0 (List.replicate ((xs.length : Int)).toNat z35) (by omega) (by omega) ⟨by simp, fun j hj => by omega⟩
  rw [← hq]
  exact hr
theorem eqInstrS_f (k : Nat) (xs : List IInstr) (hn : xs.length ≤ 1048576) (hk : xs.length < k) : laws_eqInstrS.f k xs xs = some true := by
  unfold laws_eqInstrS.f
  rw [if_pos rfl]
  obtain ⟨r, hr, hq⟩ := some_loop (fun k (_ : Unit) i => laws_eqInstrS.l0 k xs xs i) xs.length (by omega) 0 (fun _ _ => True) (fun r => r = true)
    (fun k i s _ hi _ => .inr ⟨(), by
      simp only [laws_eqInstrS.l0, laws_eqInstr.f]
      rw [if_pos (by omega), if_pos (by omega), if_pos (by omega)]
      simp only [if_true, Option.bind_some], trivial⟩)
    (fun k s _ _ => ⟨true, by simp only [laws_eqInstrS.l0]; rw [if_neg (by omega)], rfl⟩) xs.length k 0 () (by omega) (by omega) trivial
  rw [← hq]
  exact hr

def good1 (x : IInstr) : Bool := goodI x.f0.toList x.f1 x.f2 x.f3 x.f4
/-- Code is right. -/
def codeOk (xs : List IInstr) : Bool := decide (xs.length ≤ 40) && xs.all good1
theorem cdCode_f (k : Nat) (xs : List IInstr) (hn : xs.length ≤ 1048576) (hk : xs.length + 13 < k) : spec_cdCode.f k xs = some (codeOk xs) := by
  unfold spec_cdCode.f codeOk
  by_cases h : (xs.length : Int) > 40
  · rw [if_pos h]; simp; intro; omega
  · rw [if_neg h]
    obtain ⟨r, hr, hq⟩ := some_loop (fun k (_ : Unit) i => spec_cdCode.l0 k xs (xs.length : Int) i) xs.length (by omega) 13 (fun i _ => ∀ j (hj : j < xs.length), j < i → good1 xs[j] = true) (fun r => r = xs.all good1)
      (fun k i s hk hi hI => by
        have hg : spec_cdGood.f k xs[i].f0 xs[i].f1 xs[i].f2 xs[i].f3 xs[i].f4 = some (good1 xs[i]) := cdGood_f k (by omega) _ _ _ _ _
        cases hb : good1 xs[i] with
        | true =>
          refine .inr ⟨(), ?_, fun j hj hji => ?_⟩
          · simp only [spec_cdCode.l0]
            rw [if_pos (by omega), if_pos (by omega), if_pos (by omega), rdI xs i hi, hg, hb, Option.bind_some, if_pos rfl]
          · by_cases e : j = i
            · subst e; exact hb
            · exact hI j hj (by omega)
        | false =>
          refine .inl ⟨false, ?_, ?_⟩
          · simp only [spec_cdCode.l0]
            rw [if_pos (by omega), if_pos (by omega), if_pos (by omega), rdI xs i hi, hg, hb, Option.bind_some, if_neg (by decide)]
          · symm
            rw [List.all_eq_false]
            exact ⟨xs[i], List.getElem_mem hi, by simp [hb]⟩)
      (fun k s _ hI => ⟨true, by simp only [spec_cdCode.l0]; rw [if_neg (by omega)], by
        symm
        rw [List.all_eq_true]
        intro x hx
        obtain ⟨j, hj, rfl⟩ := List.mem_iff_getElem.1 hx
        exact hI j hj hj⟩) xs.length k 0 () (by omega) (by omega) (fun j _ h => by omega)
    rw [show decide (xs.length ≤ 40) = true from decide_eq_true (by omega), Bool.true_and, ← hq]
    exact hr
theorem isCode_f (k : Nat) (xs : List IInstr) (hn : xs.length ≤ 1048576) (hk : xs.length + 13 < k) : impl_IsCode.f k xs = some (codeOk xs) := by
  unfold impl_IsCode.f codeOk
  by_cases h : (xs.length : Int) ≤ 40
  · rw [if_pos h]
    obtain ⟨r, hr, hq⟩ := some_loop (fun k (_ : Unit) i => impl_Instr_impl_IsCode_c1_218.l0 k xs (xs.length : Int) i) xs.length (by omega) 13 (fun i _ => ∀ j (hj : j < xs.length), j < i → good1 xs[j] = true) (fun r => decide (r ≥ 0) = !xs.all good1)
      (fun k i s hk hi hI => by
        have hg : impl_IsInstr.f k xs[i].f0 xs[i].f1 xs[i].f2 xs[i].f3 xs[i].f4 = some (good1 xs[i]) := isInstr_f k (by omega) _ _ _ _ _
        cases hb : good1 xs[i] with
        | true =>
          refine .inr ⟨(), ?_, fun j hj hji => ?_⟩
          · simp only [impl_Instr_impl_IsCode_c1_218.l0, impl_IsCode_c1.f]
            rw [if_pos (by omega), if_pos (by omega), if_pos (by omega), rdI xs i hi, hg, hb, Option.bind_some, Option.bind_some, if_neg (by decide)]
          · by_cases e : j = i
            · subst e; exact hb
            · exact hI j hj (by omega)
        | false =>
          refine .inl ⟨i, ?_, ?_⟩
          · simp only [impl_Instr_impl_IsCode_c1_218.l0, impl_IsCode_c1.f]
            rw [if_pos (by omega), if_pos (by omega), if_pos (by omega), rdI xs i hi, hg, hb, Option.bind_some, Option.bind_some, if_pos (by decide)]
          · have : xs.all good1 = false := by
              rw [List.all_eq_false]
              exact ⟨xs[i], List.getElem_mem hi, by simp [hb]⟩
            rw [this]
            exact decide_eq_true (by omega))
      (fun k s _ hI => ⟨-1, by simp only [impl_Instr_impl_IsCode_c1_218.l0]; rw [if_neg (by omega)], by
        have : xs.all good1 = true := by
          rw [List.all_eq_true]
          intro x hx
          obtain ⟨j, hj, rfl⟩ := List.mem_iff_getElem.1 hx
          exact hI j hj hj
        rw [this]; decide⟩) xs.length k 0 () (by omega) (by omega) (fun j _ h => by omega)
    rw [show decide (xs.length ≤ 40) = true from decide_eq_true (by omega), Bool.true_and]
    have hr' : impl_Instr_impl_IsCode_c1_218.f k xs = some r := hr
    unfold impl_Instr_impl_IsCode_c1_217.f
    rw [hr', Option.bind_some, Option.bind_some, hq, Bool.not_not]
  · rw [if_neg h]; simp; intro; omega
end Go.Proofs.YtjeklcgflocfoaaDoor.PureOps
