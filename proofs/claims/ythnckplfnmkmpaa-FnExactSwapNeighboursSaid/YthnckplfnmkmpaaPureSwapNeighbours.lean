/- SwapNeighbours of the program and of the reference agree for all arguments. -/
import Derived.Test.YthnckplfnmkmpaaPureMarksI
import Derived.Test.YthnckplfnmkmpaaPureFree
import Derived.Test.YthnckplfnmkmpaaMKinds
import Derived.Test.YthnckplfnmkmpaaFImplInstrImplIsCodeC1160
import Derived.Test.YthnckplfnmkmpaaFSpecSwapNeighbours
import Derived.Test.YthnckplfnmkmpaaFLawsHeldInstrS
namespace Go.Proofs.Ythnckplfnmkmpaa.PureCd
open Go.RowKit Go.Proofs.Ythnckplfnmkmpaa.PureOps Go.Proofs.Ythnckplfnmkmpaa.F Go.Proofs.YthnckplfnmkmpaaW.PrintWords Go.Proofs.YthnckplfnmkmpaaW.PrintLast Go.Proofs.YthnckplfnmkmpaaW.PrintMore Go.Proofs.Ythnckplfnmkmpaa.MKinds
set_option linter.unusedVariables false
set_option linter.unusedSimpArgs false
def freeX (x y : IInstr) : Bool := freeL x.f0.toList x.f1 x.f2 x.f3 y.f0.toList y.f1 y.f2 y.f3
abbrev at' (xs : List IInstr) (p : Int) : IInstr := rd_T37 xs p
noncomputable def swap_res (xs : List IInstr) (p : Int) : List IInstr × Bool :=
 if codeOk xs = true then (if 0 ≤ p ∧ p ≤ (xs.length : Int) - 2 then (if freeX (at' xs p) (at' xs (p + 1)) = true then ((xs.set p.toNat (at' xs (p + 1))).set (p + 1).toNat (at' xs p), true) else ([], false)) else ([], false)) else ([], false)
theorem codeOk_len {xs : List IInstr} (h : codeOk xs = true) : xs.length ≤ 40 := by
 unfold codeOk at h
 simp only [Bool.and_eq_true, decide_eq_true_eq] at h
 exact h.1
theorem swap_s (k : Nat) (xs : List IInstr) (p : Int) (hn : xs.length ≤ 1048576) (hk : xs.length + 31 < k) : spec_SwapNeighbours.f k xs p = some (swap_res xs p) := by
 unfold spec_SwapNeighbours.f swap_res
 rw [cdCode_f k xs hn (by omega), Option.bind_some]
 by_cases hc : codeOk xs = true
 ·have hl := codeOk_len hc
  rw [if_pos hc, if_pos hc, wrap64_small (n := (xs.length : Int) - 2) (by omega) (by omega), l1In_f, Option.bind_some]
  by_cases hp : 0 ≤ p ∧ p ≤ (xs.length : Int) - 2
  ·have hb : (decide (0 ≤ p) && decide (p ≤ (xs.length : Int) - 2)) = true := by simp only [Bool.and_eq_true, decide_eq_true_eq]; exact hp
   have hw : wrap64 (p + 1) = p + 1 := wrap64_small (by omega) (by omega)
   have c1 : 0 ≤ p := hp.1
   have c2 : p < (xs.length : Int) := by omega
   have c3 : 0 ≤ p + 1 := by omega
   have c4 : p + 1 < (xs.length : Int) := by omega
   have f1 := (free_f k (by omega) (at' xs p).f0 (at' xs p).f1 (at' xs p).f2 (at' xs p).f3 (at' xs p).f4 (at' xs (p + 1)).f0 (at' xs (p + 1)).f1 (at' xs (p + 1)).f2 (at' xs (p + 1)).f3 (at' xs (p + 1)).f4).1
   rw [hw, if_pos hb, if_pos hp, if_pos c1, if_pos c2, if_pos c3, if_pos c4, f1, Option.bind_some]
   by_cases hf : freeX (at' xs p) (at' xs (p + 1)) = true
   ·have c5 : ([] : List IInstr).length + xs.length < 2932031007402 := by simp; omega
    have hf' : freeL (at' xs p).f0.toList (at' xs p).f1 (at' xs p).f2 (at' xs p).f3 (at' xs (p + 1)).f0.toList (at' xs (p + 1)).f1 (at' xs (p + 1)).f2 (at' xs (p + 1)).f3 = true := hf
    rw [if_pos hf', if_pos hf, Option.bind_some, if_pos c5, Option.bind_some, List.nil_append, if_pos c2, if_pos c4]
   ·have hf' : ¬ freeL (at' xs p).f0.toList (at' xs p).f1 (at' xs p).f2 (at' xs p).f3 (at' xs (p + 1)).f0.toList (at' xs (p + 1)).f1 (at' xs (p + 1)).f2 (at' xs (p + 1)).f3 = true := hf
    rw [if_neg hf', if_neg hf]
  ·have hb : ¬ (decide (0 ≤ p) && decide (p ≤ (xs.length : Int) - 2)) = true := by simp only [Bool.and_eq_true, decide_eq_true_eq]; exact hp
   rw [if_neg hb, if_neg hp]
 ·rw [if_neg hc, if_neg hc]
theorem swap_i (k : Nat) (xs : List IInstr) (p : Int) (hn : xs.length ≤ 1048576) (hk : xs.length + 31 < k) : impl_SwapNeighbours.f k xs p = some (swap_res xs p) := by
 unfold impl_SwapNeighbours.f swap_res
 rw [isCode_f k xs hn (by omega), Option.bind_some]
 by_cases hc : codeOk xs = true
 ·have hl := codeOk_len hc
  rw [if_pos hc, if_pos hc, wrap64_small (n := (xs.length : Int) - 2) (by omega) (by omega), within_f, Option.bind_some]
  by_cases hp : 0 ≤ p ∧ p ≤ (xs.length : Int) - 2
  ·have hb : (decide (0 ≤ p) && decide (p ≤ (xs.length : Int) - 2)) = true := by simp only [Bool.and_eq_true, decide_eq_true_eq]; exact hp
   have hw : wrap64 (p + 1) = p + 1 := wrap64_small (by omega) (by omega)
   have c1 : 0 ≤ p := hp.1
   have c2 : p < (xs.length : Int) := by omega
   have c3 : 0 ≤ p + 1 := by omega
   have c4 : p + 1 < (xs.length : Int) := by omega
   have f1 := (free_f k (by omega) (at' xs p).f0 (at' xs p).f1 (at' xs p).f2 (at' xs p).f3 (at' xs p).f4 (at' xs (p + 1)).f0 (at' xs (p + 1)).f1 (at' xs (p + 1)).f2 (at' xs (p + 1)).f3 (at' xs (p + 1)).f4).2
   rw [hw, if_pos hb, if_pos hp, if_pos c1, if_pos c2, if_pos c3, if_pos c4, f1, Option.bind_some]
   by_cases hf : freeX (at' xs p) (at' xs (p + 1)) = true
   ·have c5 : ([] : List IInstr).length + xs.length < 2932031007402 := by simp; omega
    have hf' : freeL (at' xs p).f0.toList (at' xs p).f1 (at' xs p).f2 (at' xs p).f3 (at' xs (p + 1)).f0.toList (at' xs (p + 1)).f1 (at' xs (p + 1)).f2 (at' xs (p + 1)).f3 = true := hf
    have c6 : impl_Instr_59.f xs = some xs := by
     unfold impl_Instr_59.f
     rw [Option.bind_some, if_pos c5, List.nil_append]
    rw [if_pos hf', if_pos hf, c6, Option.bind_some, if_pos c4, if_pos c2]
   ·have hf' : ¬ freeL (at' xs p).f0.toList (at' xs p).f1 (at' xs p).f2 (at' xs p).f3 (at' xs (p + 1)).f0.toList (at' xs (p + 1)).f1 (at' xs (p + 1)).f2 (at' xs (p + 1)).f3 = true := hf
    rw [if_neg hf', if_neg hf]
  ·have hb : ¬ (decide (0 ≤ p) && decide (p ≤ (xs.length : Int) - 2)) = true := by simp only [Bool.and_eq_true, decide_eq_true_eq]; exact hp
   rw [if_neg hb, if_neg hp]
 ·rw [if_neg hc, if_neg hc]
theorem swap_both (k : Nat) (xs : List IInstr) (p : Int) (hn : xs.length ≤ 1048576) (hk : xs.length + 31 < k) : spec_SwapNeighbours.f k xs p = some (swap_res xs p) ∧ impl_SwapNeighbours.f k xs p = some (swap_res xs p) :=
 ⟨swap_s k xs p hn hk, swap_i k xs p hn hk⟩
theorem swap_len (xs : List IInstr) (p : Int) : (swap_res xs p).1.length ≤ xs.length := by
 unfold swap_res
 split
 ·split
  ·split
   ·simp
   ·simp
  ·simp
 ·simp
theorem swapNeighbours_true (xs : List LInstr) (p : Int) (hn : xs.length ≤ 9223372036854775807) (hs : ∀ x ∈ xs, x.f0.size ≤ 9223372036854775807) : laws_FnExactSwapNeighbours.f (xs.length + 200) xs p = some true := by
 unfold laws_FnExactSwapNeighbours.f
 obtain ⟨r, hr, _, hl⟩ := szInstrS_f (xs.length + 200) xs 1048576 (by omega) (by omega) hn hs (by omega)
 rw [hr, Option.bind_some]
 by_cases h : r < 0
 ·rw [if_pos h]
 rw [if_neg h]
 have hn2 : xs.length ≤ 1048576 := by have := hl (by omega); omega
 have hn3 : (xs.map convI).length ≤ 1048576 := by simpa using hn2
 have hn4 : (xs.map convI).length = xs.length := by simp
 obtain ⟨h1, h2⟩ := swap_both (xs.length + 200) (xs.map convI) p hn3 (by omega)
 obtain ⟨_, g2⟩ := swap_both (xs.length + 198) (xs.map convI) p hn3 (by omega)
 have h3 := swap_len (xs.map convI) p
 generalize swap_res (xs.map convI) p = q at h1 h2 g2 h3
 obtain ⟨l', b'⟩ := q
 have h3 : l'.length ≤ xs.length := by rw [hn4] at h3; exact h3
 obtain ⟨m', m1', _, _⟩ := markInstrS_f (xs.length + 199) (xs.map convI) hn3 (by omega)
 obtain ⟨ys, y1, y2, y3⟩ := markInstrS_f (xs.length + 198) l' (by omega) (by omega)
 rw [← y2] at y3
 have j2 : laws_FnExactSwapNeighbours.j2 (xs.length + 198) ys (1 + 5 * (l'.length : Int)) false = some true := by
  rw [show xs.length + 198 = (xs.length + 197) + 1 from rfl]
  simp only [laws_FnExactSwapNeighbours.j2]
  rw [if_neg (by decide), heldInstrS_f _ ys (by omega) (by omega) y3, Option.bind_some, if_neg (by omega), if_pos (by omega)]
 have j1 : laws_FnExactSwapNeighbours.j1 (xs.length + 199) xs p l' b' l' false = some true := by
  rw [show xs.length + 199 = (xs.length + 198) + 1 from rfl]
  simp only [laws_FnExactSwapNeighbours.j1]
  rw [if_neg (by decide), y1, Option.bind_some]
  dsimp only
  rw [heldInstrS_f _ ys (by omega) (by omega) y3, Option.bind_some, if_neg (by omega), if_pos (by omega), toInstrS_f _ xs hn2 (by omega), Option.bind_some, g2, Option.bind_some]
  dsimp only
  rw [eqInstrS_f _ l' (by omega) (by omega), Option.bind_some, if_pos rfl, bne_self_eq_false]
  exact j2
 have j0 : laws_FnExactSwapNeighbours.j0 (xs.length + 200) xs p l' b' (xs.map convI) l' b' false = some true := by
  rw [show xs.length + 200 = (xs.length + 199) + 1 from rfl]
  simp only [laws_FnExactSwapNeighbours.j0]
  rw [if_neg (by decide), toInstrS_f _ xs hn2 (by omega), Option.bind_some, eqInstrS_f _ _ hn3 (by omega), Option.bind_some, if_pos rfl, m1', Option.bind_some, if_neg (by omega), eqInstrS_f _ l' (by omega) (by omega), Option.bind_some, if_pos rfl, bne_self_eq_false]
  exact j1
 rw [toInstrS_f _ xs hn2 (by omega)]
 simp only [Option.bind_some, h1, h2]
 rw [eqInstrS_f _ l' (by omega) (by omega), Option.bind_some, if_pos rfl, bne_self_eq_false]
 exact j0
theorem len_ok {n : Nat} (h : n ≤ maxLen) : n ≤ 9223372036854775807 := by unfold maxLen at h; exact h
theorem instrs_ok {xs : List LInstr} (h : ∀ x ∈ xs, instrSOk x) : ∀ x ∈ xs, x.f0.size ≤ 9223372036854775807 := fun x hx => len_ok (h x hx).1
theorem swapNeighbours_walk (A : Option Addr) (c : Nat) (xs : List LInstr) (hl : xs.length ≤ c) (W : World) (hr : Kd.C k32 W A xs.length xs) (hm : xs.length ≤ maxLen) (ho : ∀ x ∈ xs, instrSOk x) (p : Int) (hp : (Lit.int .i64 p).wf = true) :
  Calls Try.prog 6 #[.slice A xs.length c, .int .i64 p] W fun e w' => e = .returned (.bool true) ∧ Below W.heap.size W w' :=
 laws_FnExactSwapNeighbours.calls (xs.length + 200) A c xs p true W hr hl (swapNeighbours_true xs p (len_ok hm) (instrs_ok ho)) rfl
end Go.Proofs.Ythnckplfnmkmpaa.PureCd
