/- Contracts: spec_SwapNeighbours, laws_toInstrS, impl_IsCode_c1, impl_Instr_impl_IsCode_c1_161. -/
import Derived.Test.YthnckplfnmkmpaaFK
import Derived.Test.YthnckplfnmkmpaaFSpecL1In
import Derived.Test.YthnckplfnmkmpaaFSpecL1Put
import Derived.Test.YthnckplfnmkmpaaFImplIsInstr
import Derived.Test.YthnckplfnmkmpaaFSpecL1Has
import Derived.Test.YthnckplfnmkmpaaFLawsMarkText
namespace Go.Proofs.Ythnckplfnmkmpaa.F
open Go.RowKit Go.Proofs.YthnckplfnmkmpaaW.PrintWords Go.Proofs.YthnckplfnmkmpaaW.PrintLast Go.Proofs.YthnckplfnmkmpaaW.PrintMore
attribute [local go_sem] max2_int min2_int max_two min_two max_three min_three max_four min_four   -- for this text's walks alone
set_option linter.unusedVariables false
set_option linter.unusedSimpArgs false

/-! ### spec_SwapNeighbours: function 26 -/
def spec_SwapNeighbours.f (k : Nat) (l0 : List (S37)) (a1 : Int) : Option ((List (S37)) × Bool) := (spec_cdCode.f k l0).bind fun t754 => (if t754 = true then ((spec_l1In.f a1 0 (wrap64 ((l0.length : Int) - 2))).bind fun t755 => (if t755 = true then (if 0 ≤ a1 then (if a1 < (l0.length : Int) then (if 0 ≤ (wrap64 (a1 + 1)) then (if (wrap64 (a1 + 1)) < (l0.length : Int) then ((spec_cdFree.f k ((rd_T37 l0 a1).f0) ((rd_T37 l0 a1).f1) ((rd_T37 l0 a1).f2) ((rd_T37 l0 a1).f3) ((rd_T37 l0 a1).f4) ((rd_T37 l0 (wrap64 (a1 + 1))).f0) ((rd_T37 l0 (wrap64 (a1 + 1))).f1) ((rd_T37 l0 (wrap64 (a1 + 1))).f2) ((rd_T37 l0 (wrap64 (a1 + 1))).f3) ((rd_T37 l0 (wrap64 (a1 + 1))).f4)).bind fun t758 => (if t758 = true then ((some (([] : List (S37)) : List (S37))).bind fun y759 => (if y759.length + l0.length < 2932031007402 then ((some (y759 ++ l0 : List (S37))).bind fun y762 => (if a1 < (y762.length : Int) then (if (wrap64 (a1 + 1)) < (y762.length : Int) then (some (((y762.set (a1 : Int).toNat (⟨(rd_T37 l0 (wrap64 (a1 + 1))).f0, (rd_T37 l0 (wrap64 (a1 + 1))).f1, (rd_T37 l0 (wrap64 (a1 + 1))).f2, (rd_T37 l0 (wrap64 (a1 + 1))).f3, (rd_T37 l0 (wrap64 (a1 + 1))).f4⟩ : S37)).set ((wrap64 (a1 + 1)) : Int).toNat (⟨(rd_T37 l0 a1).f0, (rd_T37 l0 a1).f1, (rd_T37 l0 a1).f2, (rd_T37 l0 a1).f3, (rd_T37 l0 a1).f4⟩ : S37)), true)) else (none)) else (none))) else (none))) else (some (([] : List (S37)), false)))) else (none)) else (none)) else (none)) else (none)) else (some (([] : List (S37)), false)))) else (some (([] : List (S37)), false)))
theorem spec_SwapNeighbours.mono : ∀ a0 a1 k, LeO (spec_SwapNeighbours.f k a0 a1) (spec_SwapNeighbours.f (k + 1) a0 a1) := by
 intro a0 a1 k
 unfold spec_SwapNeighbours.f
 repeat' first
   | (with_reducible exact spec_cdCode.mono _ _)
   | (with_reducible exact spec_cdFree.mono _ _ _ _ _ _ _ _ _ _ _)
   | (with_reducible exact LeO.refl _)
   | (with_reducible exact LeO.none _)
   | (with_reducible refine LeO.ite ?_ ?_)
   | (with_reducible refine LeO.bind ?_ (fun _ => ?_))
   | exact spec_cdCode.mono _ _
   | exact spec_cdFree.mono _ _ _ _ _ _ _ _ _ _ _
   | exact LeO.none _
   | refine LeO.ite ?_ ?_
   | refine LeO.bind ?_ (fun _ => ?_)
def spec_SwapNeighbours.T1 : Bool × List (List Nat × List Nat) := (true, [([], []), ([0], [0]), ([1], [1]), ([2, 1], [2]), ([3], [3]), ([3], [3]), ([5, 3], [3, 5]), ([6, 3], [3, 6]), ([4, 7, 3, 3], [3, 4, 7]), ([8, 3], [3, 8]), ([3, 9], [3, 9]), ([10, 8], [10]), ([11], [11]), ([11], [11]), ([12, 13, 11], [11, 12, 13]), ([14, 11], [11, 14]), ([11], [11]), ([11], [11]), ([17, 11], [11, 17]), ([16, 18, 11], [11, 16, 18]), ([19, 11], [11, 19]), ([15, 20, 11, 11], [11, 15, 20]), ([21, 11], [11, 21]), ([11, 22], [11, 22])])
def spec_SwapNeighbours.B1 : List Nat := [0, 1, 3, 7, 15, 15, 47, 111, 255, 511, 1023, 2047, 4095, 4095, 16383, 32767, 4095, 4095, 135167, 462847, 987135, 2097151, 4194303, 8388607]
theorem spec_SwapNeighbours.tab1 : rtab .any (opsOf Try.f26 1) = spec_SwapNeighbours.T1 := by kernel_rfl
theorem spec_SwapNeighbours.bits1 : waitsOk spec_SwapNeighbours.T1.2 spec_SwapNeighbours.B1 = true := by kernel_rfl
set_option maxHeartbeats 8000000 in
set_option maxRecDepth 100000 in
theorem spec_SwapNeighbours.calls (k : Nat) (A0 : Option Addr) (c0 : Nat) (l0 : List (S37)) (a1 : Int) (r1 : List (S37)) (r2 : Bool) (w : World) (hr0 : Kd.C k37 w A0 l0.length l0) (hc0 : l0.length ≤ c0) (h : spec_SwapNeighbours.f k l0 a1 = some (r1, r2)) :
  Calls Try.prog 26 #[.slice A0 l0.length c0, .int .i64 a1] w fun e w' => ∃ v0_ : Value, e = .returned (.tuple #[v0_, .bool r2]) ∧ Kd.R k37 37 w' w.heap.size (fun _ => True) v0_ r1 ∧ Below w.heap.size w w' := by
 have hu37 := Try.underlying37
 have HR0 := zK hr0
 have HC0 := zK hc0
 clear hr0 hc0
 have HB := zK (Below.refl w.heap.size w)
 have H : ((spec_cdCode.f k l0).bind fun t754 => (if t754 = true then ((spec_l1In.f a1 0 (wrap64 ((l0.length : Int) - 2))).bind fun t755 => (if t755 = true then (if 0 ≤ a1 then (if a1 < (l0.length : Int) then (if 0 ≤ (wrap64 (a1 + 1)) then (if (wrap64 (a1 + 1)) < (l0.length : Int) then ((spec_cdFree.f k ((rd_T37 l0 a1).f0) ((rd_T37 l0 a1).f1) ((rd_T37 l0 a1).f2) ((rd_T37 l0 a1).f3) ((rd_T37 l0 a1).f4) ((rd_T37 l0 (wrap64 (a1 + 1))).f0) ((rd_T37 l0 (wrap64 (a1 + 1))).f1) ((rd_T37 l0 (wrap64 (a1 + 1))).f2) ((rd_T37 l0 (wrap64 (a1 + 1))).f3) ((rd_T37 l0 (wrap64 (a1 + 1))).f4)).bind fun t758 => (if t758 = true then ((some (([] : List (S37)) : List (S37))).bind fun y759 => (if y759.length + l0.length < 2932031007402 then ((some (y759 ++ l0 : List (S37))).bind fun y762 => (if a1 < (y762.length : Int) then (if (wrap64 (a1 + 1)) < (y762.length : Int) then (some (((y762.set (a1 : Int).toNat (⟨(rd_T37 l0 (wrap64 (a1 + 1))).f0, (rd_T37 l0 (wrap64 (a1 + 1))).f1, (rd_T37 l0 (wrap64 (a1 + 1))).f2, (rd_T37 l0 (wrap64 (a1 + 1))).f3, (rd_T37 l0 (wrap64 (a1 + 1))).f4⟩ : S37)).set ((wrap64 (a1 + 1)) : Int).toNat (⟨(rd_T37 l0 a1).f0, (rd_T37 l0 a1).f1, (rd_T37 l0 a1).f2, (rd_T37 l0 a1).f3, (rd_T37 l0 a1).f4⟩ : S37)), true)) else (none)) else (none))) else (none))) else (some (([] : List (S37)), false)))) else (none)) else (none)) else (none)) else (none)) else (some (([] : List (S37)), false)))) else (some (([] : List (S37)), false)))) = some (r1, r2) := h
 clear h
 replace H := Option.bind_eq_some_iff.mp H
 obtain ⟨t754, A30, H⟩ := H
 replace H : (if t754 = true then ((spec_l1In.f a1 0 (wrap64 ((l0.length : Int) - 2))).bind fun t755 => (if t755 = true then (if 0 ≤ a1 then (if a1 < (l0.length : Int) then (if 0 ≤ (wrap64 (a1 + 1)) then (if (wrap64 (a1 + 1)) < (l0.length : Int) then ((spec_cdFree.f k ((rd_T37 l0 a1).f0) ((rd_T37 l0 a1).f1) ((rd_T37 l0 a1).f2) ((rd_T37 l0 a1).f3) ((rd_T37 l0 a1).f4) ((rd_T37 l0 (wrap64 (a1 + 1))).f0) ((rd_T37 l0 (wrap64 (a1 + 1))).f1) ((rd_T37 l0 (wrap64 (a1 + 1))).f2) ((rd_T37 l0 (wrap64 (a1 + 1))).f3) ((rd_T37 l0 (wrap64 (a1 + 1))).f4)).bind fun t758 => (if t758 = true then ((some (([] : List (S37)) : List (S37))).bind fun y759 => (if y759.length + l0.length < 2932031007402 then ((some (y759 ++ l0 : List (S37))).bind fun y762 => (if a1 < (y762.length : Int) then (if (wrap64 (a1 + 1)) < (y762.length : Int) then (some (((y762.set (a1 : Int).toNat (⟨(rd_T37 l0 (wrap64 (a1 + 1))).f0, (rd_T37 l0 (wrap64 (a1 + 1))).f1, (rd_T37 l0 (wrap64 (a1 + 1))).f2, (rd_T37 l0 (wrap64 (a1 + 1))).f3, (rd_T37 l0 (wrap64 (a1 + 1))).f4⟩ : S37)).set ((wrap64 (a1 + 1)) : Int).toNat (⟨(rd_T37 l0 a1).f0, (rd_T37 l0 a1).f1, (rd_T37 l0 a1).f2, (rd_T37 l0 a1).f3, (rd_T37 l0 a1).f4⟩ : S37)), true)) else (none)) else (none))) else (none))) else (some (([] : List (S37)), false)))) else (none)) else (none)) else (none)) else (none)) else (some (([] : List (S37)), false)))) else (some (([] : List (S37)), false))) = some (r1, r2) := H
 have A3 := zK A30
 clear A30
 by_cases c4 : t754 = true
 ·subst c4
  rw [if_pos rfl] at H
  replace H := Option.bind_eq_some_iff.mp H
  obtain ⟨t755, A50, H⟩ := H
  replace H : (if t755 = true then (if 0 ≤ a1 then (if a1 < (l0.length : Int) then (if 0 ≤ (wrap64 (a1 + 1)) then (if (wrap64 (a1 + 1)) < (l0.length : Int) then ((spec_cdFree.f k ((rd_T37 l0 a1).f0) ((rd_T37 l0 a1).f1) ((rd_T37 l0 a1).f2) ((rd_T37 l0 a1).f3) ((rd_T37 l0 a1).f4) ((rd_T37 l0 (wrap64 (a1 + 1))).f0) ((rd_T37 l0 (wrap64 (a1 + 1))).f1) ((rd_T37 l0 (wrap64 (a1 + 1))).f2) ((rd_T37 l0 (wrap64 (a1 + 1))).f3) ((rd_T37 l0 (wrap64 (a1 + 1))).f4)).bind fun t758 => (if t758 = true then ((some (([] : List (S37)) : List (S37))).bind fun y759 => (if y759.length + l0.length < 2932031007402 then ((some (y759 ++ l0 : List (S37))).bind fun y762 => (if a1 < (y762.length : Int) then (if (wrap64 (a1 + 1)) < (y762.length : Int) then (some (((y762.set (a1 : Int).toNat (⟨(rd_T37 l0 (wrap64 (a1 + 1))).f0, (rd_T37 l0 (wrap64 (a1 + 1))).f1, (rd_T37 l0 (wrap64 (a1 + 1))).f2, (rd_T37 l0 (wrap64 (a1 + 1))).f3, (rd_T37 l0 (wrap64 (a1 + 1))).f4⟩ : S37)).set ((wrap64 (a1 + 1)) : Int).toNat (⟨(rd_T37 l0 a1).f0, (rd_T37 l0 a1).f1, (rd_T37 l0 a1).f2, (rd_T37 l0 a1).f3, (rd_T37 l0 a1).f4⟩ : S37)), true)) else (none)) else (none))) else (none))) else (some (([] : List (S37)), false)))) else (none)) else (none)) else (none)) else (none)) else (some (([] : List (S37)), false))) = some (r1, r2) := H
  have A5 := zK A50
  clear A50
  by_cases c6 : t755 = true
  ·subst c6
   rw [if_pos rfl] at H
   by_cases c7 : 0 ≤ a1
   ·rw [if_pos c7] at H
    have c7b0 : decide (0 ≤ a1) = true := decide_eq_true c7
    clear c7
    by_cases c8 : a1 < (l0.length : Int)
    ·rw [if_pos c8] at H
     have c8b0 : decide (a1 < (l0.length : Int)) = true := decide_eq_true c8
     clear c8
     obtain ⟨ji9, hji9⟩ : ∃ j_ : Int, (wrap64 (a1 + 1)) = j_ := ⟨_, rfl⟩
     replace H : (if 0 ≤ (ji9) then (if (ji9) < (l0.length : Int) then ((spec_cdFree.f k ((rd_T37 l0 a1).f0) ((rd_T37 l0 a1).f1) ((rd_T37 l0 a1).f2) ((rd_T37 l0 a1).f3) ((rd_T37 l0 a1).f4) ((rd_T37 l0 (ji9)).f0) ((rd_T37 l0 (ji9)).f1) ((rd_T37 l0 (ji9)).f2) ((rd_T37 l0 (ji9)).f3) ((rd_T37 l0 (ji9)).f4)).bind fun t758 => (if t758 = true then ((some (([] : List (S37)) : List (S37))).bind fun y759 => (if y759.length + l0.length < 2932031007402 then ((some (y759 ++ l0 : List (S37))).bind fun y762 => (if a1 < (y762.length : Int) then (if (ji9) < (y762.length : Int) then (some (((y762.set (a1 : Int).toNat (⟨(rd_T37 l0 (ji9)).f0, (rd_T37 l0 (ji9)).f1, (rd_T37 l0 (ji9)).f2, (rd_T37 l0 (ji9)).f3, (rd_T37 l0 (ji9)).f4⟩ : S37)).set ((ji9) : Int).toNat (⟨(rd_T37 l0 a1).f0, (rd_T37 l0 a1).f1, (rd_T37 l0 a1).f2, (rd_T37 l0 a1).f3, (rd_T37 l0 a1).f4⟩ : S37)), true)) else (none)) else (none))) else (none))) else (some (([] : List (S37)), false)))) else (none)) else (none)) = some (r1, r2) := by first | (rw [hji9] at H; exact H) | (simp only [hji9] at H ⊢; exact H)
     (try rw [hji9] at A3)
     (try rw [hji9] at A5)
     have hji9w : (IntKind.i64.wrap (a1 + 1)) = ji9 := (i64_w _).trans hji9
     by_cases c10 : 0 ≤ (ji9)
     ·rw [if_pos c10] at H
      have c10b0 : decide (0 ≤ (ji9)) = true := decide_eq_true c10
      clear c10
      by_cases c11 : (ji9) < (l0.length : Int)
      ·rw [if_pos c11] at H
       have c11b0 : decide ((ji9) < (l0.length : Int)) = true := decide_eq_true c11
       clear c11
       replace H := Option.bind_eq_some_iff.mp H
       obtain ⟨t758, A120, H⟩ := H
       replace H : (if t758 = true then ((some (([] : List (S37)) : List (S37))).bind fun y759 => (if y759.length + l0.length < 2932031007402 then ((some (y759 ++ l0 : List (S37))).bind fun y762 => (if a1 < (y762.length : Int) then (if (ji9) < (y762.length : Int) then (some (((y762.set (a1 : Int).toNat (⟨(rd_T37 l0 (ji9)).f0, (rd_T37 l0 (ji9)).f1, (rd_T37 l0 (ji9)).f2, (rd_T37 l0 (ji9)).f3, (rd_T37 l0 (ji9)).f4⟩ : S37)).set ((ji9) : Int).toNat (⟨(rd_T37 l0 a1).f0, (rd_T37 l0 a1).f1, (rd_T37 l0 a1).f2, (rd_T37 l0 a1).f3, (rd_T37 l0 a1).f4⟩ : S37)), true)) else (none)) else (none))) else (none))) else (some (([] : List (S37)), false))) = some (r1, r2) := H
       have A12 := zK A120
       clear A120
       by_cases c13 : t758 = true
       ·subst c13
        rw [if_pos rfl] at H
        obtain ⟨y759, hy759⟩ : ∃ y_ : List (S37), y_ = (([] : List (S37))) := ⟨_, rfl⟩
        replace H : (if y759.length + l0.length < 2932031007402 then ((some (y759 ++ l0 : List (S37))).bind fun y762 => (if a1 < (y762.length : Int) then (if (ji9) < (y762.length : Int) then (some (((y762.set (a1 : Int).toNat (⟨(rd_T37 l0 (ji9)).f0, (rd_T37 l0 (ji9)).f1, (rd_T37 l0 (ji9)).f2, (rd_T37 l0 (ji9)).f3, (rd_T37 l0 (ji9)).f4⟩ : S37)).set ((ji9) : Int).toNat (⟨(rd_T37 l0 a1).f0, (rd_T37 l0 a1).f1, (rd_T37 l0 a1).f2, (rd_T37 l0 a1).f3, (rd_T37 l0 a1).f4⟩ : S37)), true)) else (none)) else (none))) else (none)) = some (r1, r2) := by first | (rw [hy759]; with_reducible exact H) | (have H2_ := (Option.bind_some _ _).symm.trans H; rw [hy759]; with_reducible exact H2_) | (have H2_ := (Option.bind_some _ _).symm.trans H; with_reducible exact H2_) | with_reducible exact H | (rw [hy759]; exact H) | exact H
        have Ny759 := zK hy759
        clear hy759
        by_cases c14 : y759.length + l0.length < 2932031007402
        ·rw [if_pos c14] at H
         have LMc14 := zK c14
         clear c14
         obtain ⟨y762, hy762⟩ : ∃ y_ : List (S37), y_ = (y759 ++ l0) := ⟨_, rfl⟩
         replace H : (if a1 < (y762.length : Int) then (if (ji9) < (y762.length : Int) then (some (((y762.set (a1 : Int).toNat (⟨(rd_T37 l0 (ji9)).f0, (rd_T37 l0 (ji9)).f1, (rd_T37 l0 (ji9)).f2, (rd_T37 l0 (ji9)).f3, (rd_T37 l0 (ji9)).f4⟩ : S37)).set ((ji9) : Int).toNat (⟨(rd_T37 l0 a1).f0, (rd_T37 l0 a1).f1, (rd_T37 l0 a1).f2, (rd_T37 l0 a1).f3, (rd_T37 l0 a1).f4⟩ : S37)), true)) else (none)) else (none)) = some (r1, r2) := by first | (rw [hy762]; with_reducible exact H) | (have H2_ := (Option.bind_some _ _).symm.trans H; rw [hy762]; with_reducible exact H2_) | (have H2_ := (Option.bind_some _ _).symm.trans H; with_reducible exact H2_) | with_reducible exact H | (rw [hy762]; exact H) | exact H
         have Ny762 := zK hy762
         clear hy762
         by_cases c15 : a1 < (y762.length : Int)
         ·rw [if_pos c15] at H
          have c15b0 : decide (a1 < (y762.length : Int)) = true := decide_eq_true c15
          clear c15
          obtain ⟨y766, hy766⟩ : ∃ y_ : List (S37), y_ = (y762.set (a1 : Int).toNat (⟨(rd_T37 l0 (ji9)).f0, (rd_T37 l0 (ji9)).f1, (rd_T37 l0 (ji9)).f2, (rd_T37 l0 (ji9)).f3, (rd_T37 l0 (ji9)).f4⟩ : S37)) := ⟨_, rfl⟩
          replace H : (if (ji9) < (y762.length : Int) then (some ((y766.set ((ji9) : Int).toNat (⟨(rd_T37 l0 a1).f0, (rd_T37 l0 a1).f1, (rd_T37 l0 a1).f2, (rd_T37 l0 a1).f3, (rd_T37 l0 a1).f4⟩ : S37)), true)) else (none)) = some (r1, r2) := by first | (rw [hy766]; with_reducible exact H) | (have H2_ := (Option.bind_some _ _).symm.trans H; rw [hy766]; with_reducible exact H2_) | (have H2_ := (Option.bind_some _ _).symm.trans H; with_reducible exact H2_) | with_reducible exact H | (rw [hy766]; exact H) | exact H
          have Ny766 := zK hy766
          clear hy766
          by_cases c17 : (ji9) < (y762.length : Int)
          ·rw [if_pos c17] at H
           have c17b0 : decide ((ji9) < (y762.length : Int)) = true := decide_eq_true c17
           clear c17
           obtain ⟨y768, hy768⟩ : ∃ y_ : List (S37), y_ = (y766.set ((ji9) : Int).toNat (⟨(rd_T37 l0 a1).f0, (rd_T37 l0 a1).f1, (rd_T37 l0 a1).f2, (rd_T37 l0 a1).f3, (rd_T37 l0 a1).f4⟩ : S37)) := ⟨_, rfl⟩
           replace H : (some (y768, true)) = some (r1, r2) := by first | (rw [hy768]; with_reducible exact H) | (have H2_ := (Option.bind_some _ _).symm.trans H; rw [hy768]; with_reducible exact H2_) | (have H2_ := (Option.bind_some _ _).symm.trans H; with_reducible exact H2_) | with_reducible exact H | (rw [hy768]; exact H) | exact H
           have Ny768 := zK hy768
           clear hy768
           simp only [Option.some.injEq, Prod.mk.injEq] at H
           obtain ⟨rfl, rfl⟩ := H
           go_enter Try.func26, Try.ntmps26
           try go_wp2
           have n0_ := zK (zC HB.out)
           clear HB
           have HB := n0_
           clear n0_
           have p756 : 0 ≤ (a1 : Int) := zo
           have q756 : a1 < (l0.length : Int) := zo
           obtain ⟨ad756, e756, hx756_0, hx756_1, hx756_2, hx756_3, hx756_4⟩ := at_T37 HR0.out a1 p756 q756
           have hw756_4 := hx756_4
           have hw756_3 := hx756_3
           have hw756_2 := hx756_2
           have hw756_1 := hx756_1
           have hw756_0 := hx756_0
           cases e756
           replace hx756_0 := zt HB.out hx756_0
           replace hx756_1 := zt HB.out hx756_1
           replace hx756_2 := zt HB.out hx756_2
           replace hx756_3 := zt HB.out hx756_3
           replace hx756_4 := zt HB.out hx756_4
           replace p756 := eq_true p756
           replace q756 := eq_true q756
           have p757 : 0 ≤ ((ji9) : Int) := zo
           have q757 : (ji9) < (l0.length : Int) := zo
           obtain ⟨ad757, e757, hx757_0, hx757_1, hx757_2, hx757_3, hx757_4⟩ := at_T37 HR0.out (ji9) p757 q757
           have hw757_4 := hx757_4
           have hw757_3 := hx757_3
           have hw757_2 := hx757_2
           have hw757_1 := hx757_1
           have hw757_0 := hx757_0
           obtain rfl : ad756 = ad757 := (by injection e757)
           replace hx757_0 := zt HB.out hx757_0
           replace hx757_1 := zt HB.out hx757_1
           replace hx757_2 := zt HB.out hx757_2
           replace hx757_3 := zt HB.out hx757_3
           replace hx757_4 := zt HB.out hx757_4
           replace p757 := eq_true p757
           replace q757 := eq_true q757
           refine start_ (n := 24) (S := fun w' => w'.cell? (ad756.add ((a1).toNat * 5)) = some (.string ((rd_T37 l0 a1).f0)) ∧ w'.cell? ⟨(ad756.add ((a1).toNat * 5)).block, (ad756.add ((a1).toNat * 5)).off + 1, none⟩ = some (.int .i64 ((rd_T37 l0 a1).f1)) ∧ w'.cell? ⟨(ad756.add ((a1).toNat * 5)).block, (ad756.add ((a1).toNat * 5)).off + 2, none⟩ = some (.int .i64 ((rd_T37 l0 a1).f2)) ∧ w'.cell? ⟨(ad756.add ((a1).toNat * 5)).block, (ad756.add ((a1).toNat * 5)).off + 3, none⟩ = some (.int .i64 ((rd_T37 l0 a1).f3)) ∧ w'.cell? ⟨(ad756.add ((a1).toNat * 5)).block, (ad756.add ((a1).toNat * 5)).off + 4, none⟩ = some (.int .i64 ((rd_T37 l0 a1).f4)) ∧ w'.cell? (ad756.add (((ji9)).toNat * 5)) = some (.string ((rd_T37 l0 (ji9)).f0)) ∧ w'.cell? ⟨(ad756.add (((ji9)).toNat * 5)).block, (ad756.add (((ji9)).toNat * 5)).off + 1, none⟩ = some (.int .i64 ((rd_T37 l0 (ji9)).f1)) ∧ w'.cell? ⟨(ad756.add (((ji9)).toNat * 5)).block, (ad756.add (((ji9)).toNat * 5)).off + 2, none⟩ = some (.int .i64 ((rd_T37 l0 (ji9)).f2)) ∧ w'.cell? ⟨(ad756.add (((ji9)).toNat * 5)).block, (ad756.add (((ji9)).toNat * 5)).off + 3, none⟩ = some (.int .i64 ((rd_T37 l0 (ji9)).f3)) ∧ w'.cell? ⟨(ad756.add (((ji9)).toNat * 5)).block, (ad756.add (((ji9)).toNat * 5)).off + 4, none⟩ = some (.int .i64 ((rd_T37 l0 (ji9)).f4))) (ds := []) #[false, false, false, false, false, false, false, false, false, false, false, false, false, false, false, false, false, false, false, false, false, false, false, false] (by kernel_rfl) rfl rfl ⟨(zt HB.out hw756_0), (zt HB.out hw756_1), (zt HB.out hw756_2), (zt HB.out hw756_3), (zt HB.out hw756_4), (zt HB.out hw757_0), (zt HB.out hw757_1), (zt HB.out hw757_2), (zt HB.out hw757_3), (zt HB.out hw757_4)⟩ (fun hHeld => ?_); refine with_tabW spec_SwapNeighbours.tab1 spec_SwapNeighbours.bits1 (fun HT_ HW_ => ?_)
           generalize w.drew = w19 at HB hx756_0 hx756_1 hx756_2 hx756_3 hx756_4 hx757_0 hx757_1 hx757_2 hx757_3 hx757_4 hHeld ⊢
           refine pure_ (i := 0) (N := some 7) (v := ?_) (a' := ?_) #[true, false, false, false, false, false, false, false, false, false, false, false, false, false, false, false, false, false, false, false, false, false, false, false] rfl rfl (any_of HT_.out (by kernel_rfl)) (fun _ _ _ h => h) (Or.inl ⟨by rfl, ?_⟩) ?_ ?_
           rotate_left
           ·intro w'
            go_simp
            with_reducible rfl
           rotate_left
           ·simp only [Act.put, z1, z2, z3, i64_w, i32_w]
            rfl
           refine one_ (i := 1) (N := some 8) #[true, true, false, false, false, false, false, false, false, false, false, false, false, false, false, false, false, false, false, false, false, false, false, false] rfl rfl (one_of HT_.out (by kernel_rfl)) (by decide) (fun K hK => ?_)
           refine goes_ Try.func55 (by kernel_rfl) rfl #[.slice (some ad756) l0.length c0] (by rfl) rfl rfl (by (try simp only [z6, z7, z8]); first | done | rfl | (simp only [z4, z5]; rfl)) ?_
           with_reducible refine (spec_cdCode.calls k _ _ l0 true _ ?side1 ?side2 A3.out).mono ?_
           (case side1 => repeat (first | exact (Kd.C_below HR0.out HB.out) | (with_reducible refine Kd.C_alloc ?_ _) | (with_reducible refine Kd.C_drewN ?_ _) | (with_reducible refine Kd.C_drew ?_)))
           (case side2 => exact HC0.out)
           rintro e w20 ⟨rfl, hb⟩
           refine ⟨_, rfl, ?_⟩
           have n0_ := zK (zL (by repeat (first | (with_reducible first | exact HB.out | apply zA | apply zB | apply zC) | exact HB.out)) hb)
           clear HB
           have HB := n0_
           clear n0_
           (try clear hb)
           (try clear hb2)
           (try clear hk)
           (try clear hi)
           refine hK.out _ _ ⟨(zt HB.out hw756_0 :), (zt HB.out hw756_1 :), (zt HB.out hw756_2 :), (zt HB.out hw756_3 :), (zt HB.out hw756_4 :), (zt HB.out hw757_0 :), (zt HB.out hw757_1 :), (zt HB.out hw757_2 :), (zt HB.out hw757_3 :), (zt HB.out hw757_4 :)⟩ (fun hHeld => ?_)
           clear hK K
           refine norm_ (a' := ?_) ?_ ?_
           rotate_left
           ·show Act.put _ (some 8) _ = _
            simp only [Act.put, z1, z2, z3, i64_w, i32_w]
            rfl
           refine pure_ (i := 2) (N := some 9) (v := ?_) (a' := ?_) #[true, true, true, false, false, false, false, false, false, false, false, false, false, false, false, false, false, false, false, false, false, false, false, false] rfl rfl (any_of HT_.out (by kernel_rfl)) (fun _ _ _ h => h) (Or.inl ⟨by rfl, ?_⟩) ?_ ?_
           rotate_left
           ·intro w'
            go_simp
            with_reducible rfl
           rotate_left
           ·simp only [Act.put, z1, z2, z3, i64_w, i32_w]
            rfl
           refine pure_ (i := 3) (N := some 10) (v := ?_) (a' := ?_) #[true, true, true, true, false, false, false, false, false, false, false, false, false, false, false, false, false, false, false, false, false, false, false, false] rfl rfl (any_of HT_.out (by kernel_rfl)) (fun _ _ _ h => h) (Or.inl ⟨by rfl, ?_⟩) ?_ ?_
           rotate_left
           ·intro w'
            go_simp
            with_reducible rfl
           rotate_left
           ·simp only [Act.put, z1, z2, z3, i64_w, i32_w]
            rfl
           refine pure_ (i := 4) (N := some 11) (v := ?_) (a' := ?_) #[true, true, true, true, true, false, false, false, false, false, false, false, false, false, false, false, false, false, false, false, false, false, false, false] rfl rfl (any_of HT_.out (by kernel_rfl)) (fun _ _ _ h => h) (Or.inl ⟨by rfl, ?_⟩) ?_ ?_
           rotate_left
           ·intro w'
            go_simp
            with_reducible rfl
           rotate_left
           ·simp only [Act.put, z1, z2, z3, i64_w, i32_w]
            rfl
           refine pure_ (i := 5) (N := some 12) (v := ?_) (a' := ?_) #[true, true, true, true, true, true, false, false, false, false, false, false, false, false, false, false, false, false, false, false, false, false, false, false] rfl rfl (any_of HT_.out (by kernel_rfl)) (fun _ _ _ h => h) (Or.inl ⟨by rfl, ?_⟩) ?_ ?_
           rotate_left
           ·intro w'
            go_simp
            with_reducible rfl
           rotate_left
           ·simp only [Act.put, z1, z2, z3, i64_w, i32_w]
            rfl
           refine pure_ (i := 6) (N := some 13) (v := ?_) (a' := ?_) #[true, true, true, true, true, true, true, false, false, false, false, false, false, false, false, false, false, false, false, false, false, false, false, false] rfl rfl (any_of HT_.out (by kernel_rfl)) (fun _ _ _ h => h) (Or.inl ⟨by rfl, ?_⟩) ?_ ?_
           rotate_left
           ·intro w'
            go_simp
            with_reducible rfl
           rotate_left
           ·simp only [Act.put, z1, z2, z3, i64_w, i32_w]
            rfl
           refine pure_ (i := 7) (N := some 14) (v := ?_) (a' := ?_) #[true, true, true, true, true, true, true, true, false, false, false, false, false, false, false, false, false, false, false, false, false, false, false, false] rfl rfl (any_of HT_.out (by kernel_rfl)) (fun _ _ _ h => h) (Or.inl ⟨by rfl, ?_⟩) ?_ ?_
           rotate_left
           ·intro w'
            go_simp
            with_reducible rfl
           rotate_left
           ·simp only [Act.put, z1, z2, z3, i64_w, i32_w]
            rfl
           refine one_ (i := 8) (N := some 15) #[true, true, true, true, true, true, true, true, true, false, false, false, false, false, false, false, false, false, false, false, false, false, false, false] rfl rfl (one_of HT_.out (by kernel_rfl)) (by decide) (fun K hK => ?_)
           refine goes_ Try.func56 (by kernel_rfl) rfl #[.int .i64 a1, .int .i64 0, .int .i64 (wrap64 ((l0.length : Int) - 2))] (by rfl) rfl rfl (by (try simp only [z6, z7, z8]); first | done | rfl | (simp only [z4, z5]; rfl)) ?_
           with_reducible refine (spec_l1In.calls a1 0 (wrap64 ((l0.length : Int) - 2)) true _ A5.out).mono ?_
           rintro e w' ⟨rfl, ⟨nd, rfl⟩⟩
           refine ⟨_, rfl, ?_⟩
           refine hK.out _ _ ⟨(zt HB.out hw756_0 :), (zt HB.out hw756_1 :), (zt HB.out hw756_2 :), (zt HB.out hw756_3 :), (zt HB.out hw756_4 :), (zt HB.out hw757_0 :), (zt HB.out hw757_1 :), (zt HB.out hw757_2 :), (zt HB.out hw757_3 :), (zt HB.out hw757_4 :)⟩ (fun hHeld => ?_)
           clear hK K
           refine norm_ (a' := ?_) ?_ ?_
           rotate_left
           ·show Act.put _ (some 15) _ = _
            simp only [Act.put, z1, z2, z3, i64_w, i32_w]
            rfl
           refine pure_ (i := 9) (N := some 16) (v := ?_) (a' := ?_) #[true, true, true, true, true, true, true, true, true, true, false, false, false, false, false, false, false, false, false, false, false, false, false, false] rfl rfl (any_of HT_.out (by kernel_rfl)) (fun _ _ _ h => h) (Or.inl ⟨by rfl, ?_⟩) ?_ ?_
           rotate_left
           ·intro w'
            go_simp
            with_reducible rfl
           rotate_left
           ·simp only [Act.put, z1, z2, z3, i64_w, i32_w]
            rfl
           refine pure_ (i := 10) (N := some 17) (v := ?_) (a' := ?_) #[true, true, true, true, true, true, true, true, true, true, true, false, false, false, false, false, false, false, false, false, false, false, false, false] rfl rfl (any_of HT_.out (by kernel_rfl)) (fun _ _ _ h => h) (Or.inl ⟨by rfl, ?_⟩) ?_ ?_
           rotate_left
           ·intro w'
            go_simp
            with_reducible rfl
           rotate_left
           ·simp only [Act.put, z1, z2, z3, i64_w, i32_w]
            rfl
           refine pure_ (i := 11) (N := some 18) (v := ?_) (a' := ?_) #[true, true, true, true, true, true, true, true, true, true, true, true, false, false, false, false, false, false, false, false, false, false, false, false] rfl rfl (any_of HT_.out (by kernel_rfl)) (fun _ _ _ h => h) (Or.inl ⟨by rfl, ?_⟩) ?_ ?_
           rotate_left
           ·intro w'
            go_simp
            with_reducible rfl
           rotate_left
           ·simp only [Act.put, z1, z2, z3, i64_w, i32_w]
            rfl
           refine pure_ (i := 12) (N := some 19) (v := ?_) (a' := ?_) #[true, true, true, true, true, true, true, true, true, true, true, true, true, false, false, false, false, false, false, false, false, false, false, false] rfl rfl (any_of HT_.out (by kernel_rfl)) (fun _ _ _ h => h) (Or.inl ⟨by rfl, ?_⟩) ?_ ?_
           rotate_left
           ·intro w'
            go_simp
            with_reducible rfl
           rotate_left
           ·simp only [Act.put, z1, z2, z3, i64_w, i32_w]
            rfl
           refine pure_ (i := 13) (N := some 20) (v := ?_) (a' := ?_) #[true, true, true, true, true, true, true, true, true, true, true, true, true, true, false, false, false, false, false, false, false, false, false, false] rfl rfl (any_of HT_.out (by kernel_rfl)) (fun _ _ _ h => h) (Or.inl ⟨by rfl, ?_⟩) ?_ ?_
           rotate_left
           ·intro w'
            go_simp
            with_reducible rfl
           rotate_left
           ·simp only [Act.put, z1, z2, z3, i64_w, i32_w]
            rfl
           refine pure_ (i := 14) (N := some 21) (v := ?_) (a' := ?_) #[true, true, true, true, true, true, true, true, true, true, true, true, true, true, true, false, false, false, false, false, false, false, false, false] rfl rfl (any_of HT_.out (by kernel_rfl)) (fun _ _ _ h => h) (Or.inl ⟨by rfl, ?_⟩) ?_ ?_
           rotate_left
           ·intro w'
            go_simp
            with_reducible rfl
           rotate_left
           ·simp only [Act.put, z1, z2, z3, i64_w, i32_w]
            rfl
           refine pure_ (i := 16) (N := some 23) (v := ?_) (a' := ?_) #[true, true, true, true, true, true, true, true, true, true, true, true, true, true, true, false, true, false, false, false, false, false, false, false] rfl rfl (any_of HT_.out (by kernel_rfl)) (fun _ _ _ h => h) (Or.inl ⟨by rfl, ?_⟩) ?_ ?_
           rotate_left
           ·intro w'
            go_simp
            with_reducible rfl
           rotate_left
           ·simp only [Act.put, z1, z2, z3, i64_w, i32_w]
            rfl
           refine pure_ (i := 17) (N := some 24) (v := ?_) (a' := ?_) #[true, true, true, true, true, true, true, true, true, true, true, true, true, true, true, false, true, true, false, false, false, false, false, false] rfl rfl (any_of HT_.out (by kernel_rfl)) (fun _ _ _ h => h) (Or.inl ⟨by rfl, ?_⟩) ?_ ?_
           rotate_left
           ·intro w'
            go_simp
            with_reducible rfl
           rotate_left
           ·simp only [Act.put, z1, z2, z3, i64_w, i32_w]
            rfl
           refine pure_ (i := 18) (N := some 25) (v := ?_) (a' := ?_) #[true, true, true, true, true, true, true, true, true, true, true, true, true, true, true, false, true, true, true, false, false, false, false, false] rfl rfl (any_of HT_.out (by kernel_rfl)) (fun _ _ _ h => h) (Or.inl ⟨by rfl, ?_⟩) ?_ ?_
           rotate_left
           ·intro w'
            go_simp
            with_reducible rfl
           rotate_left
           ·simp only [Act.put, z1, z2, z3, i64_w, i32_w]
            rfl
           refine pure_ (i := 19) (N := some 26) (v := ?_) (a' := ?_) #[true, true, true, true, true, true, true, true, true, true, true, true, true, true, true, false, true, true, true, true, false, false, false, false] rfl rfl (any_of HT_.out (by kernel_rfl)) (fun _ _ _ h => h) (Or.inl ⟨by rfl, ?_⟩) ?_ ?_
           rotate_left
           ·intro w'
            go_simp
            with_reducible rfl
           rotate_left
           ·simp only [Act.put, z1, z2, z3, i64_w, i32_w]
            rfl
           refine take_ (i := 15) (N := some 22) (v := ?_) (a' := ?_) #[true, true, true, true, true, true, true, true, true, true, true, true, true, true, true, true, true, true, true, true, false, false, false, false] rfl rfl (take_ofW HT_.out HW_.out (by kernel_rfl)) (fun _ _ _ h => h) (Or.inl ⟨by rfl, ?_⟩) hHeld ?_ ?_
           rotate_left
           ·rintro w' ⟨s0, s1, s2, s3, s4, s5, s6, s7, s8, s9⟩
            go_simp
            with_reducible rfl
           rotate_left
           ·simp only [Act.put, z1, z2, z3, i64_w, i32_w]
            rfl
           refine take_ (i := 20) (N := some 27) (v := ?_) (a' := ?_) #[true, true, true, true, true, true, true, true, true, true, true, true, true, true, true, true, true, true, true, true, true, false, false, false] rfl rfl (take_ofW HT_.out HW_.out (by kernel_rfl)) (fun _ _ _ h => h) (Or.inl ⟨by rfl, ?_⟩) hHeld ?_ ?_
           rotate_left
           ·rintro w' ⟨s0, s1, s2, s3, s4, s5, s6, s7, s8, s9⟩
            go_simp
            with_reducible rfl
           rotate_left
           ·simp only [Act.put, z1, z2, z3, i64_w, i32_w]
            rfl
           refine one_ (i := 21) (N := some 28) #[true, true, true, true, true, true, true, true, true, true, true, true, true, true, true, true, true, true, true, true, true, true, false, false] rfl rfl (one_of HT_.out (by kernel_rfl)) (by decide) (fun K hK => ?_)
           refine goes_ Try.func53 (by kernel_rfl) rfl #[.agg #[.string ((rd_T37 l0 a1).f0), .int .i64 ((rd_T37 l0 a1).f1), .int .i64 ((rd_T37 l0 a1).f2), .int .i64 ((rd_T37 l0 a1).f3), .int .i64 ((rd_T37 l0 a1).f4)], .agg #[.string ((rd_T37 l0 (ji9)).f0), .int .i64 ((rd_T37 l0 (ji9)).f1), .int .i64 ((rd_T37 l0 (ji9)).f2), .int .i64 ((rd_T37 l0 (ji9)).f3), .int .i64 ((rd_T37 l0 (ji9)).f4)]] (by rfl) rfl rfl (by (try simp only [z6, z7, z8]); first | done | (simp only [hji9]; rfl) | rfl | (simp only [z4, z5]; rfl)) ?_
           with_reducible refine (spec_cdFree.calls k ((rd_T37 l0 a1).f0) ((rd_T37 l0 a1).f1) ((rd_T37 l0 a1).f2) ((rd_T37 l0 a1).f3) ((rd_T37 l0 a1).f4) ((rd_T37 l0 (ji9)).f0) ((rd_T37 l0 (ji9)).f1) ((rd_T37 l0 (ji9)).f2) ((rd_T37 l0 (ji9)).f3) ((rd_T37 l0 (ji9)).f4) true _ A12.out).mono ?_
           rintro e w21 ⟨rfl, hb⟩
           refine ⟨_, rfl, ?_⟩
           have n0_ := zK (zL (by repeat (first | (with_reducible first | exact HB.out | apply zA | apply zB | apply zC) | exact HB.out)) hb)
           clear HB
           have HB := n0_
           clear n0_
           (try clear hb)
           (try clear hb2)
           (try clear hk)
           (try clear hi)
           refine hK.out _ _ ⟨(zt HB.out hw756_0 :), (zt HB.out hw756_1 :), (zt HB.out hw756_2 :), (zt HB.out hw756_3 :), (zt HB.out hw756_4 :), (zt HB.out hw757_0 :), (zt HB.out hw757_1 :), (zt HB.out hw757_2 :), (zt HB.out hw757_3 :), (zt HB.out hw757_4 :)⟩ (fun hHeld => ?_)
           clear hK K
           refine norm_ (a' := ?_) ?_ ?_
           rotate_left
           ·show Act.put _ (some 28) _ = _
            simp only [Act.put, z1, z2, z3, i64_w, i32_w]
            rfl
           refine pure_ (i := 22) (N := some 29) (v := ?_) (a' := ?_) #[true, true, true, true, true, true, true, true, true, true, true, true, true, true, true, true, true, true, true, true, true, true, true, false] rfl rfl (any_of HT_.out (by kernel_rfl)) (fun _ _ _ h => h) (Or.inl ⟨by rfl, ?_⟩) ?_ ?_
           rotate_left
           ·intro w'
            go_simp
            with_reducible rfl
           rotate_left
           ·simp only [Act.put, z1, z2, z3, i64_w, i32_w]
            rfl
           refine pure_ (i := 23) (N := some 30) (v := ?_) (a' := ?_) #[true, true, true, true, true, true, true, true, true, true, true, true, true, true, true, true, true, true, true, true, true, true, true, true] rfl rfl (any_of HT_.out (by kernel_rfl)) (fun _ _ _ h => h) (Or.inl ⟨by rfl, ?_⟩) ?_ ?_
           rotate_left
           ·intro w'
            go_simp
            with_reducible rfl
           rotate_left
           ·simp only [Act.put, z1, z2, z3, i64_w, i32_w]
            rfl
           refine done_ (done_of HT_.out (by kernel_rfl)) ?_
           try go_wp2_with (first | ((with_reducible refine gate_dst (N := 31) rfl ?_); (try (refine gate_guard (by rfl) ?_; dsimp only)); refine Kd.R_lit k37 _ 37 ?hg (N := 31) ?hd (xs := ([] : List (S37))) (inner := []) (ok := fun _ => True) (okp := fun _ => True) ?hr ?hp (fun _ hk => hk) trivial (Below.refl _ _) (Nat.le_refl _) (by simp) ?_; (case hd => rfl); (case hg => rfl); (case hr => first | (go_simp; done) | (go_simp; rfl)); (case hp => exact (Reps.none _ _)); intro v760 w22 ho23 hb hg_ hnew_; clear hg_ hnew_; (first | rw [← Ny759.out] at ho23 | (simp only [Int.reduceToNat] at ho23; rw [← Ny759.out] at ho23)); have n0_ := zK (Kd.R_lower ho23 (zN (by repeat (first | (with_reducible first | exact HB.out | apply zA | apply zB | apply zC) | exact HB.out)))); have n1_ := zK (zL (by repeat (first | (with_reducible first | exact HB.out | apply zA | apply zB | apply zC) | exact HB.out)) hb); clear HB; have HO761 := n0_; have HB := n1_; clear n0_ n1_; clear hb ho23) | ((with_reducible refine gate_builtin (b := .append) (xs := #[.tmp 31, .tmp 32]) rfl ?_); (try (refine gate_guard (by rfl) ?_; dsimp only)); at_builtin; refine Kd.R_append_rows k37 (w0 := w) w.heap.size rfl (.tmp 31) (.tmp 32) 47 37 (.agg #[(.string ⟨#[]⟩), (.int .i64 0), (.int .i64 0), (.int .i64 0), (.int .i64 0)]) 48 rfl Try.underlying47 info37 rfl (by decide) (by omega) v760 y759 l0 _ _ _ (fun _ => True) (fun _ => False) rfl rfl ?aO ?aR (fun _ _ h => h) (fun _ h => h.elim) ?aF ?aB ?aS ?aL ?_; (case aR => repeat (first | exact (Kd.C_below HR0.out HB.out) | (with_reducible refine Kd.C_alloc ?_ _) | (with_reducible refine Kd.C_drewN ?_ _) | (with_reducible refine Kd.C_drew ?_))); (case aB => exact (by repeat (first | (with_reducible first | exact HB.out | apply zA | apply zB | apply zC) | exact HB.out))); (case aF => exact (fun _ _ => trivial)); (case aO => exact (by (with_reducible repeat (first | apply Kd.R_alloc | apply Kd.R_drewN | apply Kd.R_drew)); exact HO761.out)); (case aS => exact (zN (by repeat (first | (with_reducible first | exact HB.out | apply zA | apply zB | apply zC) | exact HB.out)))); (case aL => have := LMc14.out; omega); intro v763 w24 ho hb hg hat; rw [← Ny762.out] at ho; have n0_ := zK (hb); have n1_ := zK (ho); clear HB; clear HO761; have HB := n0_; have HO764 := n1_; clear n0_ n1_; clear ho hb hg hat; have p765 : 0 ≤ ((ji9) : Int) := zo; have q765 : (ji9) < (l0.length : Int) := zo; obtain ⟨ad765, e765, hx765_0, hx765_1, hx765_2, hx765_3, hx765_4⟩ := at_T37 HR0.out (ji9) p765 q765; obtain rfl : ad756 = ad765 := (by injection e765); replace hx765_0 := zt HB.out hx765_0; replace hx765_1 := zt HB.out hx765_1; replace hx765_2 := zt HB.out hx765_2; replace hx765_3 := zt HB.out hx765_3; replace hx765_4 := zt HB.out hx765_4; replace p765 := eq_true p765; replace q765 := eq_true q765; have p16 : 0 ≤ (a1 : Int) := zo; have q16 : (a1 : Int) < ((y762.length : Int) : Int) := zo; obtain ⟨go16, co16, eo16, gb16, gl16, cl16, HG16⟩ := Kd.R_form HO764.out (by omega); (first | cases eo16 | (injection eo16 with ea_ en_ ec_; (first | subst ea_ | (injection ea_ with ea_; subst ea_)); subst ec_; clear en_)); have GB16 := zK gb16; have GG16 := zK HG16; clear gb16 gl16 HG16; obtain ⟨ce16, hcl16, hM16, hcc16, hfr16⟩ := Kd.R_elem HO764.out z37 (a1 : Int) p16 q16; obtain rfl := k37_openM hM16; have hx16_0 : w24.cell? ⟨go16, (a1 : Int).toNat * 5, none⟩ = some (.string ((rd_T37 y762 a1).f0)) := hcc16 0 _ rfl; have hx16_1 : w24.cell? ⟨go16, (a1 : Int).toNat * 5 + 1, none⟩ = some (.int .i64 ((rd_T37 y762 a1).f1)) := hcc16 1 _ rfl; have hx16_2 : w24.cell? ⟨go16, (a1 : Int).toNat * 5 + 2, none⟩ = some (.int .i64 ((rd_T37 y762 a1).f2)) := hcc16 2 _ rfl; have hx16_3 : w24.cell? ⟨go16, (a1 : Int).toNat * 5 + 3, none⟩ = some (.int .i64 ((rd_T37 y762 a1).f3)) := hcc16 3 _ rfl; have hx16_4 : w24.cell? ⟨go16, (a1 : Int).toNat * 5 + 4, none⟩ = some (.int .i64 ((rd_T37 y762 a1).f4)) := hcc16 4 _ rfl; have hf16_0 : w24.frozen? ⟨go16, (a1 : Int).toNat * 5, none⟩ = false := hfr16 0; have hf16_1 : w24.frozen? ⟨go16, (a1 : Int).toNat * 5 + 1, none⟩ = false := hfr16 1; have hf16_2 : w24.frozen? ⟨go16, (a1 : Int).toNat * 5 + 2, none⟩ = false := hfr16 2; have hf16_3 : w24.frozen? ⟨go16, (a1 : Int).toNat * 5 + 3, none⟩ = false := hfr16 3; have hf16_4 : w24.frozen? ⟨go16, (a1 : Int).toNat * 5 + 4, none⟩ = false := hfr16 4; clear hcl16 hcc16 hfr16 hM16; replace p16 := eq_true p16; replace q16 := eq_true q16; have HX25 := zK (show Kd.R k37 37 w24 w.heap.size (fun _ => True) (.slice (some ⟨go16, 0, none⟩) y762.length co16) y762 from (by (with_reducible repeat (first | apply Kd.R_alloc | apply Kd.R_drewN | apply Kd.R_drew)); exact HO764.out)); obtain ⟨ce25, hcl25, hM25, hcc25, hfr25⟩ := Kd.R_elem HX25.out z37 (a1 : Int) (zo) (by have h_ : (a1 : Int) < ((y762.length : Int) : Int) := zo; first | exact h_ | (have e_ := (Kd.R_reads' HO764.out).1; omega) | simpa using h_); obtain rfl := k37_openM hM25; have HP25 := Kd.R_seg HX25.out (a1 : Int) (zo) (by have h_ : (a1 : Int) < ((y762.length : Int) : Int) := zo; first | exact h_ | (have e_ := (Kd.R_reads' HO764.out).1; omega) | simpa using h_) (seg := [.string ((rd_T37 l0 (ji9)).f0), .int .i64 ((rd_T37 l0 (ji9)).f1), .int .i64 ((rd_T37 l0 (ji9)).f2), .int .i64 ((rd_T37 l0 (ji9)).f3), .int .i64 ((rd_T37 l0 (ji9)).f4)]) (j := 0) hcl25 hcc25 (show 5 ≤ 5 from by decide) (x' := (⟨(rd_T37 l0 (ji9)).f0, (rd_T37 l0 (ji9)).f1, (rd_T37 l0 (ji9)).f2, (rd_T37 l0 (ji9)).f3, (rd_T37 l0 (ji9)).f4⟩ : S37)) (k37_mkM _ _ _ (⟨(rd_T37 l0 (ji9)).f0, (rd_T37 l0 (ji9)).f1, (rd_T37 l0 (ji9)).f2, (rd_T37 l0 (ji9)).f3, (rd_T37 l0 (ji9)).f4⟩ : S37) ) (fun _ hk => hk); have hx25_0 := hcc25 0 _ rfl; (try simp only [show (k37).sz = 5 from rfl, Nat.mul_one, Nat.add_zero] at hx25_0); have hf25_0 := hfr25 0; (try simp only [show (k37).sz = 5 from rfl, Nat.mul_one, Nat.add_zero] at hf25_0); have hx25_1 := hcc25 1 _ rfl; (try simp only [show (k37).sz = 5 from rfl, Nat.mul_one, Nat.add_zero] at hx25_1); have hf25_1 := hfr25 1; (try simp only [show (k37).sz = 5 from rfl, Nat.mul_one, Nat.add_zero] at hf25_1); have hx25_2 := hcc25 2 _ rfl; (try simp only [show (k37).sz = 5 from rfl, Nat.mul_one, Nat.add_zero] at hx25_2); have hf25_2 := hfr25 2; (try simp only [show (k37).sz = 5 from rfl, Nat.mul_one, Nat.add_zero] at hf25_2); have hx25_3 := hcc25 3 _ rfl; (try simp only [show (k37).sz = 5 from rfl, Nat.mul_one, Nat.add_zero] at hx25_3); have hf25_3 := hfr25 3; (try simp only [show (k37).sz = 5 from rfl, Nat.mul_one, Nat.add_zero] at hf25_3); have hx25_4 := hcc25 4 _ rfl; (try simp only [show (k37).sz = 5 from rfl, Nat.mul_one, Nat.add_zero] at hx25_4); have hf25_4 := hfr25 4; (try simp only [show (k37).sz = 5 from rfl, Nat.mul_one, Nat.add_zero] at hf25_4); clear hcl25 hcc25 hfr25 hM25) | ((with_reducible refine gate_store (t := 37) (p := 41) rfl ?_); refine store_event (t := 37) (p := 41) (v := ?vo_w26) (w1 := (((((w24.setCell ⟨go16, (a1 : Int).toNat * 5, none⟩ (.string ((rd_T37 l0 (ji9)).f0))).setCell ⟨go16, (a1 : Int).toNat * 5 + 1, none⟩ (.int .i64 ((rd_T37 l0 (ji9)).f1))).setCell ⟨go16, (a1 : Int).toNat * 5 + 2, none⟩ (.int .i64 ((rd_T37 l0 (ji9)).f2))).setCell ⟨go16, (a1 : Int).toNat * 5 + 3, none⟩ (.int .i64 ((rd_T37 l0 (ji9)).f3))).setCell ⟨go16, (a1 : Int).toNat * 5 + 4, none⟩ (.int .i64 ((rd_T37 l0 (ji9)).f4)))) ?hg ?ho ?hn ?hr ?_; (case ho => rfl); (case hg => rfl); (case hn => rfl); (case hr => first | (go_simp; done) | (go_simp; rfl)); intro w26 hw; have hg : w24.grownBy w26 (some go16) := (by rw [hw]; exact HP25.2); have hp_ : Kd.R k37 37 w26 w.heap.size (fun _ => True) (.slice (some ⟨go16, 0, none⟩) y762.length co16) y766 := (by rw [hw, Ny766.out]; exact HP25.1); clear HP25; have n0_ := zK (hp_); have n1_ := zK ((by rw [hw]; exact zD (zD (zD (zD (zD (HB.out) GB16.out) GB16.out) GB16.out) GB16.out) GB16.out : Below w.heap.size w w26)); clear HO764; clear HB; have HO764 := n0_; have HB := n1_; clear n0_ n1_; clear hg hw hp_; have p767 : 0 ≤ (a1 : Int) := zo; have q767 : a1 < (l0.length : Int) := zo; obtain ⟨ad767, e767, hx767_0, hx767_1, hx767_2, hx767_3, hx767_4⟩ := at_T37 HR0.out a1 p767 q767; obtain rfl : ad756 = ad767 := (by injection e767); replace hx767_0 := zt HB.out hx767_0; replace hx767_1 := zt HB.out hx767_1; replace hx767_2 := zt HB.out hx767_2; replace hx767_3 := zt HB.out hx767_3; replace hx767_4 := zt HB.out hx767_4; replace p767 := eq_true p767; replace q767 := eq_true q767; have p18 : 0 ≤ ((ji9) : Int) := zo; have q18 : ((ji9) : Int) < ((y762.length : Int) : Int) := zo; obtain ⟨ce18, hcl18, hM18, hcc18, hfr18⟩ := Kd.R_elem HO764.out z37 ((ji9) : Int) p18 q18; obtain rfl := k37_openM hM18; have hx18_0 : w26.cell? ⟨go16, ((ji9) : Int).toNat * 5, none⟩ = some (.string ((rd_T37 y766 (ji9)).f0)) := hcc18 0 _ rfl; have hx18_1 : w26.cell? ⟨go16, ((ji9) : Int).toNat * 5 + 1, none⟩ = some (.int .i64 ((rd_T37 y766 (ji9)).f1)) := hcc18 1 _ rfl; have hx18_2 : w26.cell? ⟨go16, ((ji9) : Int).toNat * 5 + 2, none⟩ = some (.int .i64 ((rd_T37 y766 (ji9)).f2)) := hcc18 2 _ rfl; have hx18_3 : w26.cell? ⟨go16, ((ji9) : Int).toNat * 5 + 3, none⟩ = some (.int .i64 ((rd_T37 y766 (ji9)).f3)) := hcc18 3 _ rfl; have hx18_4 : w26.cell? ⟨go16, ((ji9) : Int).toNat * 5 + 4, none⟩ = some (.int .i64 ((rd_T37 y766 (ji9)).f4)) := hcc18 4 _ rfl; have hf18_0 : w26.frozen? ⟨go16, ((ji9) : Int).toNat * 5, none⟩ = false := hfr18 0; have hf18_1 : w26.frozen? ⟨go16, ((ji9) : Int).toNat * 5 + 1, none⟩ = false := hfr18 1; have hf18_2 : w26.frozen? ⟨go16, ((ji9) : Int).toNat * 5 + 2, none⟩ = false := hfr18 2; have hf18_3 : w26.frozen? ⟨go16, ((ji9) : Int).toNat * 5 + 3, none⟩ = false := hfr18 3; have hf18_4 : w26.frozen? ⟨go16, ((ji9) : Int).toNat * 5 + 4, none⟩ = false := hfr18 4; clear hcl18 hcc18 hfr18 hM18; replace p18 := eq_true p18; replace q18 := eq_true q18; have HX27 := zK (show Kd.R k37 37 w26 w.heap.size (fun _ => True) (.slice (some ⟨go16, 0, none⟩) y762.length co16) y766 from (by (with_reducible repeat (first | apply Kd.R_alloc | apply Kd.R_drewN | apply Kd.R_drew)); exact HO764.out)); obtain ⟨ce27, hcl27, hM27, hcc27, hfr27⟩ := Kd.R_elem HX27.out z37 ((ji9) : Int) (zo) (by have h_ : ((ji9) : Int) < ((y762.length : Int) : Int) := zo; first | exact h_ | (have e_ := (Kd.R_reads' HO764.out).1; omega) | simpa using h_); obtain rfl := k37_openM hM27; have HP27 := Kd.R_seg HX27.out ((ji9) : Int) (zo) (by have h_ : ((ji9) : Int) < ((y762.length : Int) : Int) := zo; first | exact h_ | (have e_ := (Kd.R_reads' HO764.out).1; omega) | simpa using h_) (seg := [.string ((rd_T37 l0 a1).f0), .int .i64 ((rd_T37 l0 a1).f1), .int .i64 ((rd_T37 l0 a1).f2), .int .i64 ((rd_T37 l0 a1).f3), .int .i64 ((rd_T37 l0 a1).f4)]) (j := 0) hcl27 hcc27 (show 5 ≤ 5 from by decide) (x' := (⟨(rd_T37 l0 a1).f0, (rd_T37 l0 a1).f1, (rd_T37 l0 a1).f2, (rd_T37 l0 a1).f3, (rd_T37 l0 a1).f4⟩ : S37)) (k37_mkM _ _ _ (⟨(rd_T37 l0 a1).f0, (rd_T37 l0 a1).f1, (rd_T37 l0 a1).f2, (rd_T37 l0 a1).f3, (rd_T37 l0 a1).f4⟩ : S37) ) (fun _ hk => hk); have hx27_0 := hcc27 0 _ rfl; (try simp only [show (k37).sz = 5 from rfl, Nat.mul_one, Nat.add_zero] at hx27_0); have hf27_0 := hfr27 0; (try simp only [show (k37).sz = 5 from rfl, Nat.mul_one, Nat.add_zero] at hf27_0); have hx27_1 := hcc27 1 _ rfl; (try simp only [show (k37).sz = 5 from rfl, Nat.mul_one, Nat.add_zero] at hx27_1); have hf27_1 := hfr27 1; (try simp only [show (k37).sz = 5 from rfl, Nat.mul_one, Nat.add_zero] at hf27_1); have hx27_2 := hcc27 2 _ rfl; (try simp only [show (k37).sz = 5 from rfl, Nat.mul_one, Nat.add_zero] at hx27_2); have hf27_2 := hfr27 2; (try simp only [show (k37).sz = 5 from rfl, Nat.mul_one, Nat.add_zero] at hf27_2); have hx27_3 := hcc27 3 _ rfl; (try simp only [show (k37).sz = 5 from rfl, Nat.mul_one, Nat.add_zero] at hx27_3); have hf27_3 := hfr27 3; (try simp only [show (k37).sz = 5 from rfl, Nat.mul_one, Nat.add_zero] at hf27_3); have hx27_4 := hcc27 4 _ rfl; (try simp only [show (k37).sz = 5 from rfl, Nat.mul_one, Nat.add_zero] at hx27_4); have hf27_4 := hfr27 4; (try simp only [show (k37).sz = 5 from rfl, Nat.mul_one, Nat.add_zero] at hf27_4); clear hcl27 hcc27 hfr27 hM27) | ((with_reducible refine gate_store (t := 37) (p := 49) rfl ?_); refine store_event (t := 37) (p := 49) (v := ?vo_w28) (w1 := (((((w26.setCell ⟨go16, ((ji9) : Int).toNat * 5, none⟩ (.string ((rd_T37 l0 a1).f0))).setCell ⟨go16, ((ji9) : Int).toNat * 5 + 1, none⟩ (.int .i64 ((rd_T37 l0 a1).f1))).setCell ⟨go16, ((ji9) : Int).toNat * 5 + 2, none⟩ (.int .i64 ((rd_T37 l0 a1).f2))).setCell ⟨go16, ((ji9) : Int).toNat * 5 + 3, none⟩ (.int .i64 ((rd_T37 l0 a1).f3))).setCell ⟨go16, ((ji9) : Int).toNat * 5 + 4, none⟩ (.int .i64 ((rd_T37 l0 a1).f4)))) ?hg ?ho ?hn ?hr ?_; (case ho => rfl); (case hg => rfl); (case hn => rfl); (case hr => first | (go_simp; done) | (go_simp; rfl)); intro w28 hw; have hg : w26.grownBy w28 (some go16) := (by rw [hw]; exact HP27.2); have hp_ : Kd.R k37 37 w28 w.heap.size (fun _ => True) (.slice (some ⟨go16, 0, none⟩) y762.length co16) y768 := (by rw [hw, Ny768.out]; exact HP27.1); clear HP27; have n0_ := zK (hp_); have n1_ := zK ((by rw [hw]; exact zD (zD (zD (zD (zD (HB.out) GB16.out) GB16.out) GB16.out) GB16.out) GB16.out : Below w.heap.size w w28)); clear HO764; clear HB; have HO764 := n0_; have HB := n1_; clear n0_ n1_; clear hg hw hp_))
           go_ret2
           exact ⟨_, by first | rfl | (simp [errW_none, errW_some] <;> rfl) | (simp only [← hji9]; first | rfl | (simp [errW_none, errW_some] <;> rfl)) | (simp [*, errW_none, errW_some] <;> rfl), by (with_reducible repeat (first | apply Kd.R_alloc | apply Kd.R_drewN | apply Kd.R_drew)); exact HO764.out, by repeat (first | (with_reducible first | exact HB.out | apply zA | apply zB | apply zC) | exact HB.out)⟩
          ·rw [if_neg c17] at H
           exact absurd H (by simp)
         ·rw [if_neg c15] at H
          exact absurd H (by simp)
        ·rw [if_neg c14] at H
         exact absurd H (by simp)
       ·replace c13 := Bool.eq_false_iff.mpr c13
        subst c13
        rw [if_neg (show ¬ (false = true) by decide)] at H
        simp only [Option.some.injEq, Prod.mk.injEq] at H
        obtain ⟨rfl, rfl⟩ := H
        go_enter Try.func26, Try.ntmps26
        try go_wp2
        have n0_ := zK (zC HB.out)
        clear HB
        have HB := n0_
        clear n0_
        have p756 : 0 ≤ (a1 : Int) := zo
        have q756 : a1 < (l0.length : Int) := zo
        obtain ⟨ad756, e756, hx756_0, hx756_1, hx756_2, hx756_3, hx756_4⟩ := at_T37 HR0.out a1 p756 q756
        have hw756_4 := hx756_4
        have hw756_3 := hx756_3
        have hw756_2 := hx756_2
        have hw756_1 := hx756_1
        have hw756_0 := hx756_0
        cases e756
        replace hx756_0 := zt HB.out hx756_0
        replace hx756_1 := zt HB.out hx756_1
        replace hx756_2 := zt HB.out hx756_2
        replace hx756_3 := zt HB.out hx756_3
        replace hx756_4 := zt HB.out hx756_4
        replace p756 := eq_true p756
        replace q756 := eq_true q756
        have p757 : 0 ≤ ((ji9) : Int) := zo
        have q757 : (ji9) < (l0.length : Int) := zo
        obtain ⟨ad757, e757, hx757_0, hx757_1, hx757_2, hx757_3, hx757_4⟩ := at_T37 HR0.out (ji9) p757 q757
        have hw757_4 := hx757_4
        have hw757_3 := hx757_3
        have hw757_2 := hx757_2
        have hw757_1 := hx757_1
        have hw757_0 := hx757_0
        obtain rfl : ad756 = ad757 := (by injection e757)
        replace hx757_0 := zt HB.out hx757_0
        replace hx757_1 := zt HB.out hx757_1
        replace hx757_2 := zt HB.out hx757_2
        replace hx757_3 := zt HB.out hx757_3
        replace hx757_4 := zt HB.out hx757_4
        replace p757 := eq_true p757
        replace q757 := eq_true q757
        refine start_ (n := 24) (S := fun w' => w'.cell? (ad756.add ((a1).toNat * 5)) = some (.string ((rd_T37 l0 a1).f0)) ∧ w'.cell? ⟨(ad756.add ((a1).toNat * 5)).block, (ad756.add ((a1).toNat * 5)).off + 1, none⟩ = some (.int .i64 ((rd_T37 l0 a1).f1)) ∧ w'.cell? ⟨(ad756.add ((a1).toNat * 5)).block, (ad756.add ((a1).toNat * 5)).off + 2, none⟩ = some (.int .i64 ((rd_T37 l0 a1).f2)) ∧ w'.cell? ⟨(ad756.add ((a1).toNat * 5)).block, (ad756.add ((a1).toNat * 5)).off + 3, none⟩ = some (.int .i64 ((rd_T37 l0 a1).f3)) ∧ w'.cell? ⟨(ad756.add ((a1).toNat * 5)).block, (ad756.add ((a1).toNat * 5)).off + 4, none⟩ = some (.int .i64 ((rd_T37 l0 a1).f4)) ∧ w'.cell? (ad756.add (((ji9)).toNat * 5)) = some (.string ((rd_T37 l0 (ji9)).f0)) ∧ w'.cell? ⟨(ad756.add (((ji9)).toNat * 5)).block, (ad756.add (((ji9)).toNat * 5)).off + 1, none⟩ = some (.int .i64 ((rd_T37 l0 (ji9)).f1)) ∧ w'.cell? ⟨(ad756.add (((ji9)).toNat * 5)).block, (ad756.add (((ji9)).toNat * 5)).off + 2, none⟩ = some (.int .i64 ((rd_T37 l0 (ji9)).f2)) ∧ w'.cell? ⟨(ad756.add (((ji9)).toNat * 5)).block, (ad756.add (((ji9)).toNat * 5)).off + 3, none⟩ = some (.int .i64 ((rd_T37 l0 (ji9)).f3)) ∧ w'.cell? ⟨(ad756.add (((ji9)).toNat * 5)).block, (ad756.add (((ji9)).toNat * 5)).off + 4, none⟩ = some (.int .i64 ((rd_T37 l0 (ji9)).f4))) (ds := []) #[false, false, false, false, false, false, false, false, false, false, false, false, false, false, false, false, false, false, false, false, false, false, false, false] (by kernel_rfl) rfl rfl ⟨(zt HB.out hw756_0), (zt HB.out hw756_1), (zt HB.out hw756_2), (zt HB.out hw756_3), (zt HB.out hw756_4), (zt HB.out hw757_0), (zt HB.out hw757_1), (zt HB.out hw757_2), (zt HB.out hw757_3), (zt HB.out hw757_4)⟩ (fun hHeld => ?_); refine with_tabW spec_SwapNeighbours.tab1 spec_SwapNeighbours.bits1 (fun HT_ HW_ => ?_)
        generalize w.drew = w29 at HB hx756_0 hx756_1 hx756_2 hx756_3 hx756_4 hx757_0 hx757_1 hx757_2 hx757_3 hx757_4 hHeld ⊢
        refine pure_ (i := 0) (N := some 7) (v := ?_) (a' := ?_) #[true, false, false, false, false, false, false, false, false, false, false, false, false, false, false, false, false, false, false, false, false, false, false, false] rfl rfl (any_of HT_.out (by kernel_rfl)) (fun _ _ _ h => h) (Or.inl ⟨by rfl, ?_⟩) ?_ ?_
        rotate_left
        ·intro w'
         go_simp
         with_reducible rfl
        rotate_left
        ·simp only [Act.put, z1, z2, z3, i64_w, i32_w]
         rfl
        refine one_ (i := 1) (N := some 8) #[true, true, false, false, false, false, false, false, false, false, false, false, false, false, false, false, false, false, false, false, false, false, false, false] rfl rfl (one_of HT_.out (by kernel_rfl)) (by decide) (fun K hK => ?_)
        refine goes_ Try.func55 (by kernel_rfl) rfl #[.slice (some ad756) l0.length c0] (by rfl) rfl rfl (by (try simp only [z6, z7, z8]); first | done | rfl | (simp only [z4, z5]; rfl)) ?_
        with_reducible refine (spec_cdCode.calls k _ _ l0 true _ ?side1 ?side2 A3.out).mono ?_
        (case side1 => repeat (first | exact (Kd.C_below HR0.out HB.out) | (with_reducible refine Kd.C_alloc ?_ _) | (with_reducible refine Kd.C_drewN ?_ _) | (with_reducible refine Kd.C_drew ?_)))
        (case side2 => exact HC0.out)
        rintro e w30 ⟨rfl, hb⟩
        refine ⟨_, rfl, ?_⟩
        have n0_ := zK (zL (by repeat (first | (with_reducible first | exact HB.out | apply zA | apply zB | apply zC) | exact HB.out)) hb)
        clear HB
        have HB := n0_
        clear n0_
        (try clear hb)
        (try clear hb2)
        (try clear hk)
        (try clear hi)
        refine hK.out _ _ ⟨(zt HB.out hw756_0 :), (zt HB.out hw756_1 :), (zt HB.out hw756_2 :), (zt HB.out hw756_3 :), (zt HB.out hw756_4 :), (zt HB.out hw757_0 :), (zt HB.out hw757_1 :), (zt HB.out hw757_2 :), (zt HB.out hw757_3 :), (zt HB.out hw757_4 :)⟩ (fun hHeld => ?_)
        clear hK K
        refine norm_ (a' := ?_) ?_ ?_
        rotate_left
        ·show Act.put _ (some 8) _ = _
         simp only [Act.put, z1, z2, z3, i64_w, i32_w]
         rfl
        refine pure_ (i := 2) (N := some 9) (v := ?_) (a' := ?_) #[true, true, true, false, false, false, false, false, false, false, false, false, false, false, false, false, false, false, false, false, false, false, false, false] rfl rfl (any_of HT_.out (by kernel_rfl)) (fun _ _ _ h => h) (Or.inl ⟨by rfl, ?_⟩) ?_ ?_
        rotate_left
        ·intro w'
         go_simp
         with_reducible rfl
        rotate_left
        ·simp only [Act.put, z1, z2, z3, i64_w, i32_w]
         rfl
        refine pure_ (i := 3) (N := some 10) (v := ?_) (a' := ?_) #[true, true, true, true, false, false, false, false, false, false, false, false, false, false, false, false, false, false, false, false, false, false, false, false] rfl rfl (any_of HT_.out (by kernel_rfl)) (fun _ _ _ h => h) (Or.inl ⟨by rfl, ?_⟩) ?_ ?_
        rotate_left
        ·intro w'
         go_simp
         with_reducible rfl
        rotate_left
        ·simp only [Act.put, z1, z2, z3, i64_w, i32_w]
         rfl
        refine pure_ (i := 4) (N := some 11) (v := ?_) (a' := ?_) #[true, true, true, true, true, false, false, false, false, false, false, false, false, false, false, false, false, false, false, false, false, false, false, false] rfl rfl (any_of HT_.out (by kernel_rfl)) (fun _ _ _ h => h) (Or.inl ⟨by rfl, ?_⟩) ?_ ?_
        rotate_left
        ·intro w'
         go_simp
         with_reducible rfl
        rotate_left
        ·simp only [Act.put, z1, z2, z3, i64_w, i32_w]
         rfl
        refine pure_ (i := 5) (N := some 12) (v := ?_) (a' := ?_) #[true, true, true, true, true, true, false, false, false, false, false, false, false, false, false, false, false, false, false, false, false, false, false, false] rfl rfl (any_of HT_.out (by kernel_rfl)) (fun _ _ _ h => h) (Or.inl ⟨by rfl, ?_⟩) ?_ ?_
        rotate_left
        ·intro w'
         go_simp
         with_reducible rfl
        rotate_left
        ·simp only [Act.put, z1, z2, z3, i64_w, i32_w]
         rfl
        refine pure_ (i := 6) (N := some 13) (v := ?_) (a' := ?_) #[true, true, true, true, true, true, true, false, false, false, false, false, false, false, false, false, false, false, false, false, false, false, false, false] rfl rfl (any_of HT_.out (by kernel_rfl)) (fun _ _ _ h => h) (Or.inl ⟨by rfl, ?_⟩) ?_ ?_
        rotate_left
        ·intro w'
         go_simp
         with_reducible rfl
        rotate_left
        ·simp only [Act.put, z1, z2, z3, i64_w, i32_w]
         rfl
        refine pure_ (i := 7) (N := some 14) (v := ?_) (a' := ?_) #[true, true, true, true, true, true, true, true, false, false, false, false, false, false, false, false, false, false, false, false, false, false, false, false] rfl rfl (any_of HT_.out (by kernel_rfl)) (fun _ _ _ h => h) (Or.inl ⟨by rfl, ?_⟩) ?_ ?_
        rotate_left
        ·intro w'
         go_simp
         with_reducible rfl
        rotate_left
        ·simp only [Act.put, z1, z2, z3, i64_w, i32_w]
         rfl
        refine one_ (i := 8) (N := some 15) #[true, true, true, true, true, true, true, true, true, false, false, false, false, false, false, false, false, false, false, false, false, false, false, false] rfl rfl (one_of HT_.out (by kernel_rfl)) (by decide) (fun K hK => ?_)
        refine goes_ Try.func56 (by kernel_rfl) rfl #[.int .i64 a1, .int .i64 0, .int .i64 (wrap64 ((l0.length : Int) - 2))] (by rfl) rfl rfl (by (try simp only [z6, z7, z8]); first | done | rfl | (simp only [z4, z5]; rfl)) ?_
        with_reducible refine (spec_l1In.calls a1 0 (wrap64 ((l0.length : Int) - 2)) true _ A5.out).mono ?_
        rintro e w' ⟨rfl, ⟨nd, rfl⟩⟩
        refine ⟨_, rfl, ?_⟩
        refine hK.out _ _ ⟨(zt HB.out hw756_0 :), (zt HB.out hw756_1 :), (zt HB.out hw756_2 :), (zt HB.out hw756_3 :), (zt HB.out hw756_4 :), (zt HB.out hw757_0 :), (zt HB.out hw757_1 :), (zt HB.out hw757_2 :), (zt HB.out hw757_3 :), (zt HB.out hw757_4 :)⟩ (fun hHeld => ?_)
        clear hK K
        refine norm_ (a' := ?_) ?_ ?_
        rotate_left
        ·show Act.put _ (some 15) _ = _
         simp only [Act.put, z1, z2, z3, i64_w, i32_w]
         rfl
        refine pure_ (i := 9) (N := some 16) (v := ?_) (a' := ?_) #[true, true, true, true, true, true, true, true, true, true, false, false, false, false, false, false, false, false, false, false, false, false, false, false] rfl rfl (any_of HT_.out (by kernel_rfl)) (fun _ _ _ h => h) (Or.inl ⟨by rfl, ?_⟩) ?_ ?_
        rotate_left
        ·intro w'
         go_simp
         with_reducible rfl
        rotate_left
        ·simp only [Act.put, z1, z2, z3, i64_w, i32_w]
         rfl
        refine pure_ (i := 10) (N := some 17) (v := ?_) (a' := ?_) #[true, true, true, true, true, true, true, true, true, true, true, false, false, false, false, false, false, false, false, false, false, false, false, false] rfl rfl (any_of HT_.out (by kernel_rfl)) (fun _ _ _ h => h) (Or.inl ⟨by rfl, ?_⟩) ?_ ?_
        rotate_left
        ·intro w'
         go_simp
         with_reducible rfl
        rotate_left
        ·simp only [Act.put, z1, z2, z3, i64_w, i32_w]
         rfl
        refine pure_ (i := 11) (N := some 18) (v := ?_) (a' := ?_) #[true, true, true, true, true, true, true, true, true, true, true, true, false, false, false, false, false, false, false, false, false, false, false, false] rfl rfl (any_of HT_.out (by kernel_rfl)) (fun _ _ _ h => h) (Or.inl ⟨by rfl, ?_⟩) ?_ ?_
        rotate_left
        ·intro w'
         go_simp
         with_reducible rfl
        rotate_left
        ·simp only [Act.put, z1, z2, z3, i64_w, i32_w]
         rfl
        refine pure_ (i := 12) (N := some 19) (v := ?_) (a' := ?_) #[true, true, true, true, true, true, true, true, true, true, true, true, true, false, false, false, false, false, false, false, false, false, false, false] rfl rfl (any_of HT_.out (by kernel_rfl)) (fun _ _ _ h => h) (Or.inl ⟨by rfl, ?_⟩) ?_ ?_
        rotate_left
        ·intro w'
         go_simp
         with_reducible rfl
        rotate_left
        ·simp only [Act.put, z1, z2, z3, i64_w, i32_w]
         rfl
        refine pure_ (i := 13) (N := some 20) (v := ?_) (a' := ?_) #[true, true, true, true, true, true, true, true, true, true, true, true, true, true, false, false, false, false, false, false, false, false, false, false] rfl rfl (any_of HT_.out (by kernel_rfl)) (fun _ _ _ h => h) (Or.inl ⟨by rfl, ?_⟩) ?_ ?_
        rotate_left
        ·intro w'
         go_simp
         with_reducible rfl
        rotate_left
        ·simp only [Act.put, z1, z2, z3, i64_w, i32_w]
         rfl
        refine pure_ (i := 14) (N := some 21) (v := ?_) (a' := ?_) #[true, true, true, true, true, true, true, true, true, true, true, true, true, true, true, false, false, false, false, false, false, false, false, false] rfl rfl (any_of HT_.out (by kernel_rfl)) (fun _ _ _ h => h) (Or.inl ⟨by rfl, ?_⟩) ?_ ?_
        rotate_left
        ·intro w'
         go_simp
         with_reducible rfl
        rotate_left
        ·simp only [Act.put, z1, z2, z3, i64_w, i32_w]
         rfl
        refine pure_ (i := 16) (N := some 23) (v := ?_) (a' := ?_) #[true, true, true, true, true, true, true, true, true, true, true, true, true, true, true, false, true, false, false, false, false, false, false, false] rfl rfl (any_of HT_.out (by kernel_rfl)) (fun _ _ _ h => h) (Or.inl ⟨by rfl, ?_⟩) ?_ ?_
        rotate_left
        ·intro w'
         go_simp
         with_reducible rfl
        rotate_left
        ·simp only [Act.put, z1, z2, z3, i64_w, i32_w]
         rfl
        refine pure_ (i := 17) (N := some 24) (v := ?_) (a' := ?_) #[true, true, true, true, true, true, true, true, true, true, true, true, true, true, true, false, true, true, false, false, false, false, false, false] rfl rfl (any_of HT_.out (by kernel_rfl)) (fun _ _ _ h => h) (Or.inl ⟨by rfl, ?_⟩) ?_ ?_
        rotate_left
        ·intro w'
         go_simp
         with_reducible rfl
        rotate_left
        ·simp only [Act.put, z1, z2, z3, i64_w, i32_w]
         rfl
        refine pure_ (i := 18) (N := some 25) (v := ?_) (a' := ?_) #[true, true, true, true, true, true, true, true, true, true, true, true, true, true, true, false, true, true, true, false, false, false, false, false] rfl rfl (any_of HT_.out (by kernel_rfl)) (fun _ _ _ h => h) (Or.inl ⟨by rfl, ?_⟩) ?_ ?_
        rotate_left
        ·intro w'
         go_simp
         with_reducible rfl
        rotate_left
        ·simp only [Act.put, z1, z2, z3, i64_w, i32_w]
         rfl
        refine pure_ (i := 19) (N := some 26) (v := ?_) (a' := ?_) #[true, true, true, true, true, true, true, true, true, true, true, true, true, true, true, false, true, true, true, true, false, false, false, false] rfl rfl (any_of HT_.out (by kernel_rfl)) (fun _ _ _ h => h) (Or.inl ⟨by rfl, ?_⟩) ?_ ?_
        rotate_left
        ·intro w'
         go_simp
         with_reducible rfl
        rotate_left
        ·simp only [Act.put, z1, z2, z3, i64_w, i32_w]
         rfl
        refine take_ (i := 15) (N := some 22) (v := ?_) (a' := ?_) #[true, true, true, true, true, true, true, true, true, true, true, true, true, true, true, true, true, true, true, true, false, false, false, false] rfl rfl (take_ofW HT_.out HW_.out (by kernel_rfl)) (fun _ _ _ h => h) (Or.inl ⟨by rfl, ?_⟩) hHeld ?_ ?_
        rotate_left
        ·rintro w' ⟨s0, s1, s2, s3, s4, s5, s6, s7, s8, s9⟩
         go_simp
         with_reducible rfl
        rotate_left
        ·simp only [Act.put, z1, z2, z3, i64_w, i32_w]
         rfl
        refine take_ (i := 20) (N := some 27) (v := ?_) (a' := ?_) #[true, true, true, true, true, true, true, true, true, true, true, true, true, true, true, true, true, true, true, true, true, false, false, false] rfl rfl (take_ofW HT_.out HW_.out (by kernel_rfl)) (fun _ _ _ h => h) (Or.inl ⟨by rfl, ?_⟩) hHeld ?_ ?_
        rotate_left
        ·rintro w' ⟨s0, s1, s2, s3, s4, s5, s6, s7, s8, s9⟩
         go_simp
         with_reducible rfl
        rotate_left
        ·simp only [Act.put, z1, z2, z3, i64_w, i32_w]
         rfl
        refine one_ (i := 21) (N := some 28) #[true, true, true, true, true, true, true, true, true, true, true, true, true, true, true, true, true, true, true, true, true, true, false, false] rfl rfl (one_of HT_.out (by kernel_rfl)) (by decide) (fun K hK => ?_)
        refine goes_ Try.func53 (by kernel_rfl) rfl #[.agg #[.string ((rd_T37 l0 a1).f0), .int .i64 ((rd_T37 l0 a1).f1), .int .i64 ((rd_T37 l0 a1).f2), .int .i64 ((rd_T37 l0 a1).f3), .int .i64 ((rd_T37 l0 a1).f4)], .agg #[.string ((rd_T37 l0 (ji9)).f0), .int .i64 ((rd_T37 l0 (ji9)).f1), .int .i64 ((rd_T37 l0 (ji9)).f2), .int .i64 ((rd_T37 l0 (ji9)).f3), .int .i64 ((rd_T37 l0 (ji9)).f4)]] (by rfl) rfl rfl (by (try simp only [z6, z7, z8]); first | done | (simp only [hji9]; rfl) | rfl | (simp only [z4, z5]; rfl)) ?_
        with_reducible refine (spec_cdFree.calls k ((rd_T37 l0 a1).f0) ((rd_T37 l0 a1).f1) ((rd_T37 l0 a1).f2) ((rd_T37 l0 a1).f3) ((rd_T37 l0 a1).f4) ((rd_T37 l0 (ji9)).f0) ((rd_T37 l0 (ji9)).f1) ((rd_T37 l0 (ji9)).f2) ((rd_T37 l0 (ji9)).f3) ((rd_T37 l0 (ji9)).f4) false _ A12.out).mono ?_
        rintro e w31 ⟨rfl, hb⟩
        refine ⟨_, rfl, ?_⟩
        have n0_ := zK (zL (by repeat (first | (with_reducible first | exact HB.out | apply zA | apply zB | apply zC) | exact HB.out)) hb)
        clear HB
        have HB := n0_
        clear n0_
        (try clear hb)
        (try clear hb2)
        (try clear hk)
        (try clear hi)
        refine hK.out _ _ ⟨(zt HB.out hw756_0 :), (zt HB.out hw756_1 :), (zt HB.out hw756_2 :), (zt HB.out hw756_3 :), (zt HB.out hw756_4 :), (zt HB.out hw757_0 :), (zt HB.out hw757_1 :), (zt HB.out hw757_2 :), (zt HB.out hw757_3 :), (zt HB.out hw757_4 :)⟩ (fun hHeld => ?_)
        clear hK K
        refine norm_ (a' := ?_) ?_ ?_
        rotate_left
        ·show Act.put _ (some 28) _ = _
         simp only [Act.put, z1, z2, z3, i64_w, i32_w]
         rfl
        refine pure_ (i := 22) (N := some 29) (v := ?_) (a' := ?_) #[true, true, true, true, true, true, true, true, true, true, true, true, true, true, true, true, true, true, true, true, true, true, true, false] rfl rfl (any_of HT_.out (by kernel_rfl)) (fun _ _ _ h => h) (Or.inl ⟨by rfl, ?_⟩) ?_ ?_
        rotate_left
        ·intro w'
         go_simp
         with_reducible rfl
        rotate_left
        ·simp only [Act.put, z1, z2, z3, i64_w, i32_w]
         rfl
        refine pure_ (i := 23) (N := some 30) (v := ?_) (a' := ?_) #[true, true, true, true, true, true, true, true, true, true, true, true, true, true, true, true, true, true, true, true, true, true, true, true] rfl rfl (any_of HT_.out (by kernel_rfl)) (fun _ _ _ h => h) (Or.inl ⟨by rfl, ?_⟩) ?_ ?_
        rotate_left
        ·intro w'
         go_simp
         with_reducible rfl
        rotate_left
        ·simp only [Act.put, z1, z2, z3, i64_w, i32_w]
         rfl
        refine done_ (done_of HT_.out (by kernel_rfl)) ?_
        try go_wp2
        go_ret2
        exact ⟨_, by first | rfl | (simp [errW_none, errW_some] <;> rfl) | (simp only [← hji9]; first | rfl | (simp [errW_none, errW_some] <;> rfl)) | (simp [*, errW_none, errW_some] <;> rfl), by first | exact Kd.R_nil _ _ _ _ _ | exact Kd.N_nil _ _ _ _ _ | exact Kd.V_nil _ _ _ _ _ | exact Kd.Q_nil _ _ _ _ _ | exact Kd.S_nil _ _ _ _ _, by repeat (first | (with_reducible first | exact HB.out | apply zA | apply zB | apply zC) | exact HB.out)⟩
      ·rw [if_neg c11] at H
       exact absurd H (by simp)
     ·rw [if_neg c10] at H
      exact absurd H (by simp)
    ·rw [if_neg c8] at H
     exact absurd H (by simp)
   ·rw [if_neg c7] at H
    exact absurd H (by simp)
  ·replace c6 := Bool.eq_false_iff.mpr c6
   subst c6
   rw [if_neg (show ¬ (false = true) by decide)] at H
   simp only [Option.some.injEq, Prod.mk.injEq] at H
   obtain ⟨rfl, rfl⟩ := H
   go_enter Try.func26, Try.ntmps26
   try go_wp2
   have n0_ := zK (zC HB.out)
   clear HB
   have HB := n0_
   clear n0_
   refine start_ (n := 24) (S := fun w' => True) (ds := []) #[false, false, false, false, false, false, false, false, false, false, false, false, false, false, false, false, false, false, false, false, false, false, false, false] (by kernel_rfl) rfl rfl trivial (fun hHeld => ?_); refine with_tabW spec_SwapNeighbours.tab1 spec_SwapNeighbours.bits1 (fun HT_ HW_ => ?_)
   generalize w.drew = w32 at HB hHeld ⊢
   refine pure_ (i := 0) (N := some 7) (v := ?_) (a' := ?_) #[true, false, false, false, false, false, false, false, false, false, false, false, false, false, false, false, false, false, false, false, false, false, false, false] rfl rfl (any_of HT_.out (by kernel_rfl)) (fun _ _ _ h => h) (Or.inl ⟨by rfl, ?_⟩) ?_ ?_
   rotate_left
   ·intro w'
    go_simp
    with_reducible rfl
   rotate_left
   ·simp only [Act.put, z1, z2, z3, i64_w, i32_w]
    rfl
   refine one_ (i := 1) (N := some 8) #[true, true, false, false, false, false, false, false, false, false, false, false, false, false, false, false, false, false, false, false, false, false, false, false] rfl rfl (one_of HT_.out (by kernel_rfl)) (by decide) (fun K hK => ?_)
   refine goes_ Try.func55 (by kernel_rfl) rfl #[.slice A0 l0.length c0] (by rfl) rfl rfl (by (try simp only [z6, z7, z8]); first | done | rfl | (simp only [z4, z5]; rfl)) ?_
   with_reducible refine (spec_cdCode.calls k _ _ l0 true _ ?side1 ?side2 A3.out).mono ?_
   (case side1 => repeat (first | exact (Kd.C_below HR0.out HB.out) | (with_reducible refine Kd.C_alloc ?_ _) | (with_reducible refine Kd.C_drewN ?_ _) | (with_reducible refine Kd.C_drew ?_)))
   (case side2 => exact HC0.out)
   rintro e w33 ⟨rfl, hb⟩
   refine ⟨_, rfl, ?_⟩
   have n0_ := zK (zL (by repeat (first | (with_reducible first | exact HB.out | apply zA | apply zB | apply zC) | exact HB.out)) hb)
   clear HB
   have HB := n0_
   clear n0_
   (try clear hb)
   (try clear hb2)
   (try clear hk)
   (try clear hi)
   refine hK.out _ _ trivial (fun hHeld => ?_)
   clear hK K
   refine norm_ (a' := ?_) ?_ ?_
   rotate_left
   ·show Act.put _ (some 8) _ = _
    simp only [Act.put, z1, z2, z3, i64_w, i32_w]
    rfl
   refine pure_ (i := 2) (N := some 9) (v := ?_) (a' := ?_) #[true, true, true, false, false, false, false, false, false, false, false, false, false, false, false, false, false, false, false, false, false, false, false, false] rfl rfl (any_of HT_.out (by kernel_rfl)) (fun _ _ _ h => h) (Or.inl ⟨by rfl, ?_⟩) ?_ ?_
   rotate_left
   ·intro w'
    go_simp
    with_reducible rfl
   rotate_left
   ·simp only [Act.put, z1, z2, z3, i64_w, i32_w]
    rfl
   refine pure_ (i := 3) (N := some 10) (v := ?_) (a' := ?_) #[true, true, true, true, false, false, false, false, false, false, false, false, false, false, false, false, false, false, false, false, false, false, false, false] rfl rfl (any_of HT_.out (by kernel_rfl)) (fun _ _ _ h => h) (Or.inl ⟨by rfl, ?_⟩) ?_ ?_
   rotate_left
   ·intro w'
    go_simp
    with_reducible rfl
   rotate_left
   ·simp only [Act.put, z1, z2, z3, i64_w, i32_w]
    rfl
   refine pure_ (i := 4) (N := some 11) (v := ?_) (a' := ?_) #[true, true, true, true, true, false, false, false, false, false, false, false, false, false, false, false, false, false, false, false, false, false, false, false] rfl rfl (any_of HT_.out (by kernel_rfl)) (fun _ _ _ h => h) (Or.inl ⟨by rfl, ?_⟩) ?_ ?_
   rotate_left
   ·intro w'
    go_simp
    with_reducible rfl
   rotate_left
   ·simp only [Act.put, z1, z2, z3, i64_w, i32_w]
    rfl
   refine pure_ (i := 5) (N := some 12) (v := ?_) (a' := ?_) #[true, true, true, true, true, true, false, false, false, false, false, false, false, false, false, false, false, false, false, false, false, false, false, false] rfl rfl (any_of HT_.out (by kernel_rfl)) (fun _ _ _ h => h) (Or.inl ⟨by rfl, ?_⟩) ?_ ?_
   rotate_left
   ·intro w'
    go_simp
    with_reducible rfl
   rotate_left
   ·simp only [Act.put, z1, z2, z3, i64_w, i32_w]
    rfl
   refine pure_ (i := 6) (N := some 13) (v := ?_) (a' := ?_) #[true, true, true, true, true, true, true, false, false, false, false, false, false, false, false, false, false, false, false, false, false, false, false, false] rfl rfl (any_of HT_.out (by kernel_rfl)) (fun _ _ _ h => h) (Or.inl ⟨by rfl, ?_⟩) ?_ ?_
   rotate_left
   ·intro w'
    go_simp
    with_reducible rfl
   rotate_left
   ·simp only [Act.put, z1, z2, z3, i64_w, i32_w]
    rfl
   refine pure_ (i := 7) (N := some 14) (v := ?_) (a' := ?_) #[true, true, true, true, true, true, true, true, false, false, false, false, false, false, false, false, false, false, false, false, false, false, false, false] rfl rfl (any_of HT_.out (by kernel_rfl)) (fun _ _ _ h => h) (Or.inl ⟨by rfl, ?_⟩) ?_ ?_
   rotate_left
   ·intro w'
    go_simp
    with_reducible rfl
   rotate_left
   ·simp only [Act.put, z1, z2, z3, i64_w, i32_w]
    rfl
   refine one_ (i := 8) (N := some 15) #[true, true, true, true, true, true, true, true, true, false, false, false, false, false, false, false, false, false, false, false, false, false, false, false] rfl rfl (one_of HT_.out (by kernel_rfl)) (by decide) (fun K hK => ?_)
   refine goes_ Try.func56 (by kernel_rfl) rfl #[.int .i64 a1, .int .i64 0, .int .i64 (wrap64 ((l0.length : Int) - 2))] (by rfl) rfl rfl (by (try simp only [z6, z7, z8]); first | done | rfl | (simp only [z4, z5]; rfl)) ?_
   with_reducible refine (spec_l1In.calls a1 0 (wrap64 ((l0.length : Int) - 2)) false _ A5.out).mono ?_
   rintro e w' ⟨rfl, ⟨nd, rfl⟩⟩
   refine ⟨_, rfl, ?_⟩
   refine hK.out _ _ trivial (fun hHeld => ?_)
   clear hK K
   refine norm_ (a' := ?_) ?_ ?_
   rotate_left
   ·show Act.put _ (some 15) _ = _
    simp only [Act.put, z1, z2, z3, i64_w, i32_w]
    rfl
   refine pure_ (i := 9) (N := some 16) (v := ?_) (a' := ?_) #[true, true, true, true, true, true, true, true, true, true, false, false, false, false, false, false, false, false, false, false, false, false, false, false] rfl rfl (any_of HT_.out (by kernel_rfl)) (fun _ _ _ h => h) (Or.inl ⟨by rfl, ?_⟩) ?_ ?_
   rotate_left
   ·intro w'
    go_simp
    with_reducible rfl
   rotate_left
   ·simp only [Act.put, z1, z2, z3, i64_w, i32_w]
    rfl
   refine pure_ (i := 10) (N := some 17) (v := ?_) (a' := ?_) #[true, true, true, true, true, true, true, true, true, true, true, false, false, false, false, false, false, false, false, false, false, false, false, false] rfl rfl (any_of HT_.out (by kernel_rfl)) (fun _ _ _ h => h) (Or.inl ⟨by rfl, ?_⟩) ?_ ?_
   rotate_left
   ·intro w'
    go_simp
    with_reducible rfl
   rotate_left
   ·simp only [Act.put, z1, z2, z3, i64_w, i32_w]
    rfl
   refine pure_ (i := 11) (N := some 18) (v := ?_) (a' := ?_) #[true, true, true, true, true, true, true, true, true, true, true, true, false, false, false, false, false, false, false, false, false, false, false, false] rfl rfl (any_of HT_.out (by kernel_rfl)) (fun _ _ _ h => h) (Or.inl ⟨by rfl, ?_⟩) ?_ ?_
   rotate_left
   ·intro w'
    go_simp
    with_reducible rfl
   rotate_left
   ·simp only [Act.put, z1, z2, z3, i64_w, i32_w]
    rfl
   refine pure_ (i := 12) (N := some 19) (v := undef) (a' := ?_) #[true, true, true, true, true, true, true, true, true, true, true, true, true, false, false, false, false, false, false, false, false, false, false, false] rfl rfl (any_of HT_.out (by kernel_rfl)) (fun _ _ _ h => h) (Or.inr ⟨by rfl, rfl⟩) ?_ ?_
   rotate_left
   ·simp only [Act.put, z1, z2, z3, i64_w, i32_w]
    rfl
   refine pure_ (i := 13) (N := some 20) (v := undef) (a' := ?_) #[true, true, true, true, true, true, true, true, true, true, true, true, true, true, false, false, false, false, false, false, false, false, false, false] rfl rfl (any_of HT_.out (by kernel_rfl)) (fun _ _ _ h => h) (Or.inr ⟨by rfl, rfl⟩) ?_ ?_
   rotate_left
   ·simp only [Act.put, z1, z2, z3, i64_w, i32_w]
    rfl
   refine pure_ (i := 14) (N := some 21) (v := undef) (a' := ?_) #[true, true, true, true, true, true, true, true, true, true, true, true, true, true, true, false, false, false, false, false, false, false, false, false] rfl rfl (any_of HT_.out (by kernel_rfl)) (fun _ _ _ h => h) (Or.inr ⟨by rfl, rfl⟩) ?_ ?_
   rotate_left
   ·simp only [Act.put, z1, z2, z3, i64_w, i32_w]
    rfl
   refine pure_ (i := 15) (N := some 22) (v := undef) (a' := ?_) #[true, true, true, true, true, true, true, true, true, true, true, true, true, true, true, true, false, false, false, false, false, false, false, false] rfl rfl (any_of HT_.out (by kernel_rfl)) (fun _ _ _ h => h) (Or.inr ⟨by rfl, rfl⟩) ?_ ?_
   rotate_left
   ·simp only [Act.put, z1, z2, z3, i64_w, i32_w]
    rfl
   refine pure_ (i := 16) (N := some 23) (v := undef) (a' := ?_) #[true, true, true, true, true, true, true, true, true, true, true, true, true, true, true, true, true, false, false, false, false, false, false, false] rfl rfl (any_of HT_.out (by kernel_rfl)) (fun _ _ _ h => h) (Or.inr ⟨by rfl, rfl⟩) ?_ ?_
   rotate_left
   ·simp only [Act.put, z1, z2, z3, i64_w, i32_w]
    rfl
   refine pure_ (i := 17) (N := some 24) (v := undef) (a' := ?_) #[true, true, true, true, true, true, true, true, true, true, true, true, true, true, true, true, true, true, false, false, false, false, false, false] rfl rfl (any_of HT_.out (by kernel_rfl)) (fun _ _ _ h => h) (Or.inr ⟨by rfl, rfl⟩) ?_ ?_
   rotate_left
   ·simp only [Act.put, z1, z2, z3, i64_w, i32_w]
    rfl
   refine pure_ (i := 18) (N := some 25) (v := undef) (a' := ?_) #[true, true, true, true, true, true, true, true, true, true, true, true, true, true, true, true, true, true, true, false, false, false, false, false] rfl rfl (any_of HT_.out (by kernel_rfl)) (fun _ _ _ h => h) (Or.inr ⟨by rfl, rfl⟩) ?_ ?_
   rotate_left
   ·simp only [Act.put, z1, z2, z3, i64_w, i32_w]
    rfl
   refine pure_ (i := 19) (N := some 26) (v := undef) (a' := ?_) #[true, true, true, true, true, true, true, true, true, true, true, true, true, true, true, true, true, true, true, true, false, false, false, false] rfl rfl (any_of HT_.out (by kernel_rfl)) (fun _ _ _ h => h) (Or.inr ⟨by rfl, rfl⟩) ?_ ?_
   rotate_left
   ·simp only [Act.put, z1, z2, z3, i64_w, i32_w]
    rfl
   refine pure_ (i := 20) (N := some 27) (v := undef) (a' := ?_) #[true, true, true, true, true, true, true, true, true, true, true, true, true, true, true, true, true, true, true, true, true, false, false, false] rfl rfl (any_of HT_.out (by kernel_rfl)) (fun _ _ _ h => h) (Or.inr ⟨by rfl, rfl⟩) ?_ ?_
   rotate_left
   ·simp only [Act.put, z1, z2, z3, i64_w, i32_w]
    rfl
   refine pure_ (i := 21) (N := some 28) (v := undef) (a' := ?_) #[true, true, true, true, true, true, true, true, true, true, true, true, true, true, true, true, true, true, true, true, true, true, false, false] rfl rfl (any_of HT_.out (by kernel_rfl)) (fun _ _ _ h => h) (Or.inr ⟨by rfl, rfl⟩) ?_ ?_
   rotate_left
   ·simp only [Act.put, z1, z2, z3, i64_w, i32_w]
    rfl
   refine pure_ (i := 22) (N := some 29) (v := undef) (a' := ?_) #[true, true, true, true, true, true, true, true, true, true, true, true, true, true, true, true, true, true, true, true, true, true, true, false] rfl rfl (any_of HT_.out (by kernel_rfl)) (fun _ _ _ h => h) (Or.inr ⟨by rfl, rfl⟩) ?_ ?_
   rotate_left
   ·simp only [Act.put, z1, z2, z3, i64_w, i32_w]
    rfl
   refine pure_ (i := 23) (N := some 30) (v := ?_) (a' := ?_) #[true, true, true, true, true, true, true, true, true, true, true, true, true, true, true, true, true, true, true, true, true, true, true, true] rfl rfl (any_of HT_.out (by kernel_rfl)) (fun _ _ _ h => h) (Or.inl ⟨by rfl, ?_⟩) ?_ ?_
   rotate_left
   ·intro w'
    go_simp
    with_reducible rfl
   rotate_left
   ·simp only [Act.put, z1, z2, z3, i64_w, i32_w]
    rfl
   refine done_ (done_of HT_.out (by kernel_rfl)) ?_
   try go_wp2
   go_ret2
   exact ⟨_, by first | rfl | (simp [errW_none, errW_some] <;> rfl) | (simp [*, errW_none, errW_some] <;> rfl), by first | exact Kd.R_nil _ _ _ _ _ | exact Kd.N_nil _ _ _ _ _ | exact Kd.V_nil _ _ _ _ _ | exact Kd.Q_nil _ _ _ _ _ | exact Kd.S_nil _ _ _ _ _, by repeat (first | (with_reducible first | exact HB.out | apply zA | apply zB | apply zC) | exact HB.out)⟩
 ·replace c4 := Bool.eq_false_iff.mpr c4
  subst c4
  rw [if_neg (show ¬ (false = true) by decide)] at H
  simp only [Option.some.injEq, Prod.mk.injEq] at H
  obtain ⟨rfl, rfl⟩ := H
  go_enter Try.func26, Try.ntmps26
  try go_wp2
  have n0_ := zK (zC HB.out)
  clear HB
  have HB := n0_
  clear n0_
  refine start_ (n := 24) (S := fun w' => True) (ds := []) #[false, false, false, false, false, false, false, false, false, false, false, false, false, false, false, false, false, false, false, false, false, false, false, false] (by kernel_rfl) rfl rfl trivial (fun hHeld => ?_); refine with_tabW spec_SwapNeighbours.tab1 spec_SwapNeighbours.bits1 (fun HT_ HW_ => ?_)
  generalize w.drew = w34 at HB hHeld ⊢
  refine pure_ (i := 0) (N := some 7) (v := ?_) (a' := ?_) #[true, false, false, false, false, false, false, false, false, false, false, false, false, false, false, false, false, false, false, false, false, false, false, false] rfl rfl (any_of HT_.out (by kernel_rfl)) (fun _ _ _ h => h) (Or.inl ⟨by rfl, ?_⟩) ?_ ?_
  rotate_left
  ·intro w'
   go_simp
   with_reducible rfl
  rotate_left
  ·simp only [Act.put, z1, z2, z3, i64_w, i32_w]
   rfl
  refine one_ (i := 1) (N := some 8) #[true, true, false, false, false, false, false, false, false, false, false, false, false, false, false, false, false, false, false, false, false, false, false, false] rfl rfl (one_of HT_.out (by kernel_rfl)) (by decide) (fun K hK => ?_)
  refine goes_ Try.func55 (by kernel_rfl) rfl #[.slice A0 l0.length c0] (by rfl) rfl rfl (by (try simp only [z6, z7, z8]); first | done | rfl | (simp only [z4, z5]; rfl)) ?_
  with_reducible refine (spec_cdCode.calls k _ _ l0 false _ ?side1 ?side2 A3.out).mono ?_
  (case side1 => repeat (first | exact (Kd.C_below HR0.out HB.out) | (with_reducible refine Kd.C_alloc ?_ _) | (with_reducible refine Kd.C_drewN ?_ _) | (with_reducible refine Kd.C_drew ?_)))
  (case side2 => exact HC0.out)
  rintro e w35 ⟨rfl, hb⟩
  refine ⟨_, rfl, ?_⟩
  have n0_ := zK (zL (by repeat (first | (with_reducible first | exact HB.out | apply zA | apply zB | apply zC) | exact HB.out)) hb)
  clear HB
  have HB := n0_
  clear n0_
  (try clear hb)
  (try clear hb2)
  (try clear hk)
  (try clear hi)
  refine hK.out _ _ trivial (fun hHeld => ?_)
  clear hK K
  refine norm_ (a' := ?_) ?_ ?_
  rotate_left
  ·show Act.put _ (some 8) _ = _
   simp only [Act.put, z1, z2, z3, i64_w, i32_w]
   rfl
  refine pure_ (i := 2) (N := some 9) (v := ?_) (a' := ?_) #[true, true, true, false, false, false, false, false, false, false, false, false, false, false, false, false, false, false, false, false, false, false, false, false] rfl rfl (any_of HT_.out (by kernel_rfl)) (fun _ _ _ h => h) (Or.inl ⟨by rfl, ?_⟩) ?_ ?_
  rotate_left
  ·intro w'
   go_simp
   with_reducible rfl
  rotate_left
  ·simp only [Act.put, z1, z2, z3, i64_w, i32_w]
   rfl
  refine pure_ (i := 3) (N := some 10) (v := ?_) (a' := ?_) #[true, true, true, true, false, false, false, false, false, false, false, false, false, false, false, false, false, false, false, false, false, false, false, false] rfl rfl (any_of HT_.out (by kernel_rfl)) (fun _ _ _ h => h) (Or.inl ⟨by rfl, ?_⟩) ?_ ?_
  rotate_left
  ·intro w'
   go_simp
   with_reducible rfl
  rotate_left
  ·simp only [Act.put, z1, z2, z3, i64_w, i32_w]
   rfl
  refine pure_ (i := 4) (N := some 11) (v := undef) (a' := ?_) #[true, true, true, true, true, false, false, false, false, false, false, false, false, false, false, false, false, false, false, false, false, false, false, false] rfl rfl (any_of HT_.out (by kernel_rfl)) (fun _ _ _ h => h) (Or.inr ⟨by rfl, rfl⟩) ?_ ?_
  rotate_left
  ·simp only [Act.put, z1, z2, z3, i64_w, i32_w]
   rfl
  refine pure_ (i := 5) (N := some 12) (v := undef) (a' := ?_) #[true, true, true, true, true, true, false, false, false, false, false, false, false, false, false, false, false, false, false, false, false, false, false, false] rfl rfl (any_of HT_.out (by kernel_rfl)) (fun _ _ _ h => h) (Or.inr ⟨by rfl, rfl⟩) ?_ ?_
  rotate_left
  ·simp only [Act.put, z1, z2, z3, i64_w, i32_w]
   rfl
  refine pure_ (i := 6) (N := some 13) (v := undef) (a' := ?_) #[true, true, true, true, true, true, true, false, false, false, false, false, false, false, false, false, false, false, false, false, false, false, false, false] rfl rfl (any_of HT_.out (by kernel_rfl)) (fun _ _ _ h => h) (Or.inr ⟨by rfl, rfl⟩) ?_ ?_
  rotate_left
  ·simp only [Act.put, z1, z2, z3, i64_w, i32_w]
   rfl
  refine pure_ (i := 7) (N := some 14) (v := undef) (a' := ?_) #[true, true, true, true, true, true, true, true, false, false, false, false, false, false, false, false, false, false, false, false, false, false, false, false] rfl rfl (any_of HT_.out (by kernel_rfl)) (fun _ _ _ h => h) (Or.inr ⟨by rfl, rfl⟩) ?_ ?_
  rotate_left
  ·simp only [Act.put, z1, z2, z3, i64_w, i32_w]
   rfl
  refine pure_ (i := 8) (N := some 15) (v := undef) (a' := ?_) #[true, true, true, true, true, true, true, true, true, false, false, false, false, false, false, false, false, false, false, false, false, false, false, false] rfl rfl (any_of HT_.out (by kernel_rfl)) (fun _ _ _ h => h) (Or.inr ⟨by rfl, rfl⟩) ?_ ?_
  rotate_left
  ·simp only [Act.put, z1, z2, z3, i64_w, i32_w]
   rfl
  refine pure_ (i := 9) (N := some 16) (v := undef) (a' := ?_) #[true, true, true, true, true, true, true, true, true, true, false, false, false, false, false, false, false, false, false, false, false, false, false, false] rfl rfl (any_of HT_.out (by kernel_rfl)) (fun _ _ _ h => h) (Or.inr ⟨by rfl, rfl⟩) ?_ ?_
  rotate_left
  ·simp only [Act.put, z1, z2, z3, i64_w, i32_w]
   rfl
  refine pure_ (i := 10) (N := some 17) (v := ?_) (a' := ?_) #[true, true, true, true, true, true, true, true, true, true, true, false, false, false, false, false, false, false, false, false, false, false, false, false] rfl rfl (any_of HT_.out (by kernel_rfl)) (fun _ _ _ h => h) (Or.inl ⟨by rfl, ?_⟩) ?_ ?_
  rotate_left
  ·intro w'
   go_simp
   with_reducible rfl
  rotate_left
  ·simp only [Act.put, z1, z2, z3, i64_w, i32_w]
   rfl
  refine pure_ (i := 11) (N := some 18) (v := ?_) (a' := ?_) #[true, true, true, true, true, true, true, true, true, true, true, true, false, false, false, false, false, false, false, false, false, false, false, false] rfl rfl (any_of HT_.out (by kernel_rfl)) (fun _ _ _ h => h) (Or.inl ⟨by rfl, ?_⟩) ?_ ?_
  rotate_left
  ·intro w'
   go_simp
   with_reducible rfl
  rotate_left
  ·simp only [Act.put, z1, z2, z3, i64_w, i32_w]
   rfl
  refine pure_ (i := 12) (N := some 19) (v := undef) (a' := ?_) #[true, true, true, true, true, true, true, true, true, true, true, true, true, false, false, false, false, false, false, false, false, false, false, false] rfl rfl (any_of HT_.out (by kernel_rfl)) (fun _ _ _ h => h) (Or.inr ⟨by rfl, rfl⟩) ?_ ?_
  rotate_left
  ·simp only [Act.put, z1, z2, z3, i64_w, i32_w]
   rfl
  refine pure_ (i := 13) (N := some 20) (v := undef) (a' := ?_) #[true, true, true, true, true, true, true, true, true, true, true, true, true, true, false, false, false, false, false, false, false, false, false, false] rfl rfl (any_of HT_.out (by kernel_rfl)) (fun _ _ _ h => h) (Or.inr ⟨by rfl, rfl⟩) ?_ ?_
  rotate_left
  ·simp only [Act.put, z1, z2, z3, i64_w, i32_w]
   rfl
  refine pure_ (i := 14) (N := some 21) (v := undef) (a' := ?_) #[true, true, true, true, true, true, true, true, true, true, true, true, true, true, true, false, false, false, false, false, false, false, false, false] rfl rfl (any_of HT_.out (by kernel_rfl)) (fun _ _ _ h => h) (Or.inr ⟨by rfl, rfl⟩) ?_ ?_
  rotate_left
  ·simp only [Act.put, z1, z2, z3, i64_w, i32_w]
   rfl
  refine pure_ (i := 15) (N := some 22) (v := undef) (a' := ?_) #[true, true, true, true, true, true, true, true, true, true, true, true, true, true, true, true, false, false, false, false, false, false, false, false] rfl rfl (any_of HT_.out (by kernel_rfl)) (fun _ _ _ h => h) (Or.inr ⟨by rfl, rfl⟩) ?_ ?_
  rotate_left
  ·simp only [Act.put, z1, z2, z3, i64_w, i32_w]
   rfl
  refine pure_ (i := 16) (N := some 23) (v := undef) (a' := ?_) #[true, true, true, true, true, true, true, true, true, true, true, true, true, true, true, true, true, false, false, false, false, false, false, false] rfl rfl (any_of HT_.out (by kernel_rfl)) (fun _ _ _ h => h) (Or.inr ⟨by rfl, rfl⟩) ?_ ?_
  rotate_left
  ·simp only [Act.put, z1, z2, z3, i64_w, i32_w]
   rfl
  refine pure_ (i := 17) (N := some 24) (v := undef) (a' := ?_) #[true, true, true, true, true, true, true, true, true, true, true, true, true, true, true, true, true, true, false, false, false, false, false, false] rfl rfl (any_of HT_.out (by kernel_rfl)) (fun _ _ _ h => h) (Or.inr ⟨by rfl, rfl⟩) ?_ ?_
  rotate_left
  ·simp only [Act.put, z1, z2, z3, i64_w, i32_w]
   rfl
  refine pure_ (i := 18) (N := some 25) (v := undef) (a' := ?_) #[true, true, true, true, true, true, true, true, true, true, true, true, true, true, true, true, true, true, true, false, false, false, false, false] rfl rfl (any_of HT_.out (by kernel_rfl)) (fun _ _ _ h => h) (Or.inr ⟨by rfl, rfl⟩) ?_ ?_
  rotate_left
  ·simp only [Act.put, z1, z2, z3, i64_w, i32_w]
   rfl
  refine pure_ (i := 19) (N := some 26) (v := undef) (a' := ?_) #[true, true, true, true, true, true, true, true, true, true, true, true, true, true, true, true, true, true, true, true, false, false, false, false] rfl rfl (any_of HT_.out (by kernel_rfl)) (fun _ _ _ h => h) (Or.inr ⟨by rfl, rfl⟩) ?_ ?_
  rotate_left
  ·simp only [Act.put, z1, z2, z3, i64_w, i32_w]
   rfl
  refine pure_ (i := 20) (N := some 27) (v := undef) (a' := ?_) #[true, true, true, true, true, true, true, true, true, true, true, true, true, true, true, true, true, true, true, true, true, false, false, false] rfl rfl (any_of HT_.out (by kernel_rfl)) (fun _ _ _ h => h) (Or.inr ⟨by rfl, rfl⟩) ?_ ?_
  rotate_left
  ·simp only [Act.put, z1, z2, z3, i64_w, i32_w]
   rfl
  refine pure_ (i := 21) (N := some 28) (v := undef) (a' := ?_) #[true, true, true, true, true, true, true, true, true, true, true, true, true, true, true, true, true, true, true, true, true, true, false, false] rfl rfl (any_of HT_.out (by kernel_rfl)) (fun _ _ _ h => h) (Or.inr ⟨by rfl, rfl⟩) ?_ ?_
  rotate_left
  ·simp only [Act.put, z1, z2, z3, i64_w, i32_w]
   rfl
  refine pure_ (i := 22) (N := some 29) (v := undef) (a' := ?_) #[true, true, true, true, true, true, true, true, true, true, true, true, true, true, true, true, true, true, true, true, true, true, true, false] rfl rfl (any_of HT_.out (by kernel_rfl)) (fun _ _ _ h => h) (Or.inr ⟨by rfl, rfl⟩) ?_ ?_
  rotate_left
  ·simp only [Act.put, z1, z2, z3, i64_w, i32_w]
   rfl
  refine pure_ (i := 23) (N := some 30) (v := ?_) (a' := ?_) #[true, true, true, true, true, true, true, true, true, true, true, true, true, true, true, true, true, true, true, true, true, true, true, true] rfl rfl (any_of HT_.out (by kernel_rfl)) (fun _ _ _ h => h) (Or.inl ⟨by rfl, ?_⟩) ?_ ?_
  rotate_left
  ·intro w'
   go_simp
   with_reducible rfl
  rotate_left
  ·simp only [Act.put, z1, z2, z3, i64_w, i32_w]
   rfl
  refine done_ (done_of HT_.out (by kernel_rfl)) ?_
  try go_wp2
  go_ret2
  exact ⟨_, by first | rfl | (simp [errW_none, errW_some] <;> rfl) | (simp [*, errW_none, errW_some] <;> rfl), by first | exact Kd.R_nil _ _ _ _ _ | exact Kd.N_nil _ _ _ _ _ | exact Kd.V_nil _ _ _ _ _ | exact Kd.Q_nil _ _ _ _ _ | exact Kd.S_nil _ _ _ _ _, by repeat (first | (with_reducible first | exact HB.out | apply zA | apply zB | apply zC) | exact HB.out)⟩

/-! ### laws_toInstrS: function 27 -/
def laws_toInstrS.l0 : Nat → List (S32) → List (S37) → Int → Option ((List (S37)))
 | 0, _, _, _ => none
 | k + 1, x0, x3, x4 => if x4 < (x0.length : Int) then (if 0 ≤ x4 then ((laws_toInstr.f ((rd_T32 x0 x4).f0) ((rd_T32 x0 x4).f1) ((rd_T32 x0 x4).f2) ((rd_T32 x0 x4).f3) ((rd_T32 x0 x4).f4)).bind fun bt773 => (if x4 < (x3.length : Int) then (laws_toInstrS.l0 k x0 (x3.set (x4 : Int).toNat (⟨bt773.1, bt773.2.1, bt773.2.2.1, bt773.2.2.2.1, bt773.2.2.2.2⟩ : S37)) (wrap64 (x4 + 1))) else (none))) else (none)) else (some x3)
def laws_toInstrS.f (k : Nat) (l0 : List (S32)) : Option ((List (S37))) := if 0 ≤ (l0.length : Int) then (if ((l0.length : Int) : Int).toNat ≤ 5864062014805 then (laws_toInstrS.l0 k l0 (List.replicate ((l0.length : Int) : Int).toNat z37) 0) else (none)) else (none)
theorem laws_toInstrS.mono_l : ∀ k, (∀ y0 y1 y2, LeO (laws_toInstrS.l0 k y0 y1 y2) (laws_toInstrS.l0 (k + 1) y0 y1 y2))
 | 0 => fun _ _ _ r h => by simp [laws_toInstrS.l0] at h
 | k + 1 => by
  have ih0 := laws_toInstrS.mono_l k
  ·intro y0 y1 y2
   unfold laws_toInstrS.l0
   repeat' first
   | (with_reducible exact ih0 _ _ _)
   | (with_reducible exact LeO.refl _)
   | (with_reducible exact LeO.none _)
   | (with_reducible refine LeO.ite ?_ ?_)
   | (with_reducible refine LeO.bind ?_ (fun _ => ?_))
   | exact ih0 _ _ _
   | exact LeO.none _
   | refine LeO.ite ?_ ?_
   | refine LeO.bind ?_ (fun _ => ?_)
theorem laws_toInstrS.mono : ∀ a0 k, LeO (laws_toInstrS.f k a0) (laws_toInstrS.f (k + 1) a0) := by
 intro a0 k
 have ih0 := laws_toInstrS.mono_l k
 unfold laws_toInstrS.f
 repeat' first
   | (with_reducible exact ih0 _ _ _)
   | (with_reducible exact LeO.refl _)
   | (with_reducible exact LeO.none _)
   | (with_reducible refine LeO.ite ?_ ?_)
   | (with_reducible refine LeO.bind ?_ (fun _ => ?_))
   | exact ih0 _ _ _
   | exact LeO.none _
   | refine LeO.ite ?_ ?_
   | refine LeO.bind ?_ (fun _ => ?_)
set_option maxHeartbeats 8000000 in
set_option maxRecDepth 100000 in
theorem laws_toInstrS.calls (k : Nat) (A0 : Option Addr) (c0 : Nat) (l0 : List (S32)) (r : List (S37)) (w : World) (hr0 : Kd.C k32 w A0 l0.length l0) (hc0 : l0.length ≤ c0) (h : laws_toInstrS.f k l0 = some r) :
  Calls Try.prog 27 #[.slice A0 l0.length c0] w fun e w' => ∃ v0_ : Value, e = .returned (v0_) ∧ Kd.R k37 37 w' w.heap.size (fun _ => True) v0_ r ∧ Below w.heap.size w w' := by
 have hu32 := Try.underlying32
 have hu37 := Try.underlying37
 have HR0 := zK hr0
 have HC0 := zK hc0
 clear hr0 hc0
 have HB := zK (Below.refl w.heap.size w)
 have H : (if 0 ≤ (l0.length : Int) then (if ((l0.length : Int) : Int).toNat ≤ 5864062014805 then (laws_toInstrS.l0 k l0 (List.replicate ((l0.length : Int) : Int).toNat z37) 0) else (none)) else (none)) = some r := h
 clear h
 by_cases c2 : 0 ≤ (l0.length : Int)
 ·rw [if_pos c2] at H
  have c2b0 := eq_true c2
  have c2b1 : decide (0 ≤ (l0.length : Int)) = true := decide_eq_true c2
  clear c2
  by_cases c3 : ((l0.length : Int) : Int).toNat ≤ 5864062014805
  ·rw [if_pos c3] at H
   have c3b0 := eq_true c3
   have c3b1 : decide (((l0.length : Int) : Int).toNat ≤ 5864062014805) = true := decide_eq_true c3
   clear c3
   obtain ⟨y769, hy769⟩ : ∃ y_ : List (S37), y_ = (List.replicate ((l0.length : Int) : Int).toNat z37) := ⟨_, rfl⟩
   replace H : (laws_toInstrS.l0 k l0 y769 0) = some r := by first | (rw [hy769]; with_reducible exact H) | (have H2_ := (Option.bind_some _ _).symm.trans H; rw [hy769]; with_reducible exact H2_) | (have H2_ := (Option.bind_some _ _).symm.trans H; with_reducible exact H2_) | with_reducible exact H | (rw [hy769]; exact H) | exact H
   have Ny769 := zK hy769
   clear hy769
   have H' := zK H
   clear H
   go_enter Try.func27, Try.ntmps27
   go_wp2_with (first | ((with_reducible refine gate_dst (N := 7) rfl ?_); refine Kd.R_make k37 _ 37 rfl (N := 7) rfl 47 _ _ rfl (l0.length : Int) rfl rfl Try.underlying47 (.agg #[(.string ⟨#[]⟩), (.int .i64 0), (.int .i64 0), (.int .i64 0), (.int .i64 0)]) 48 info37 rfl (by decide) (by omega) z37 (ok := fun _ => True) (okp := fun _ => True) (k37_mkM _ _ _ z37 ) (fun _ hk => hk) trivial (zo) (Nat.le_trans (Nat.mul_le_mul_right _ (zo : (l0.length : Int).toNat ≤ 5864062014805)) (by omega)) (Below.refl _ _) (Nat.le_refl _) ?_; intro v770 w4 ho5 hb hg_ hnew_; clear hg_ hnew_; (first | rw [← Ny769.out] at ho5 | (simp only [Int.reduceToNat] at ho5; rw [← Ny769.out] at ho5)); have n0_ := zK (Kd.R_lower ho5 (zN (by repeat (first | (with_reducible first | exact HB.out | apply zA | apply zB | apply zC) | exact HB.out)))); have n1_ := zK (zL (by repeat (first | (with_reducible first | exact HB.out | apply zA | apply zB | apply zC) | exact HB.out)) hb); clear HB; have HO771 := n0_; have HB := n1_; clear n0_ n1_; clear hb ho5))
   go_loopg [4] k (fun kq v4 w' => ∃ (x3_1 : List (S37)) (x4_1 : Int), v4 = .int .i64 x4_1 ∧ Aside0 (laws_toInstrS.l0 kq l0 x3_1 x4_1 = some r) ∧ Aside0 (kq ≤ k) ∧ Aside0 (Kd.R k37 37 w' w.heap.size (fun _ => True) v770 x3_1) ∧ Aside0 (Below w.heap.size w w'))
   case atStart => exact ⟨(y769), (0), (by first | rfl | (simp; done) | (simp [*]; done)), H', ⟨Nat.le_refl _⟩, ⟨by (with_reducible repeat (first | apply Kd.R_alloc | apply Kd.R_drewN | apply Kd.R_drew)); exact HO771.out⟩, ⟨by repeat (first | (with_reducible first | exact HB.out | apply zA | apply zB | apply zC) | exact HB.out)⟩⟩
   case round =>
    clear H'
    try clear c2
    try clear c2b0
    try clear c2b1
    try clear p2
    try clear c3
    try clear c3b0
    try clear c3b1
    obtain ⟨x3_1, x4_1, rfl, HA, HK1, HO_3, HB⟩ := hrel
    cases gk with
    | zero => exact absurd HA.out (by simp [laws_toInstrS.l0])
    | succ k1 =>
     have H := HA.out
     clear HA
     simp only [laws_toInstrS.l0] at H
     by_cases c6 : x4_1 < (l0.length : Int)
     ·rw [if_pos c6] at H
      have c6b0 : decide (x4_1 < (l0.length : Int)) = true := decide_eq_true c6
      clear c6
      by_cases c7 : 0 ≤ x4_1
      ·rw [if_pos c7] at H
       have c7b0 : decide (0 ≤ x4_1) = true := decide_eq_true c7
       clear c7
       replace H := Option.bind_eq_some_iff.mp H
       obtain ⟨⟨t773, t774, t775, t776, t777⟩, A80, H⟩ := H
       replace H : (if x4_1 < (x3_1.length : Int) then (laws_toInstrS.l0 k1 l0 (x3_1.set (x4_1 : Int).toNat (⟨t773, t774, t775, t776, t777⟩ : S37)) (wrap64 (x4_1 + 1))) else (none)) = some r := H
       have A8 := zK A80
       clear A80
       by_cases c9 : x4_1 < (x3_1.length : Int)
       ·rw [if_pos c9] at H
        have c9b0 : decide (x4_1 < (x3_1.length : Int)) = true := decide_eq_true c9
        clear c9
        obtain ⟨y778, hy778⟩ : ∃ y_ : List (S37), y_ = (x3_1.set (x4_1 : Int).toNat (⟨t773, t774, t775, t776, t777⟩ : S37)) := ⟨_, rfl⟩
        replace H : (laws_toInstrS.l0 k1 l0 y778 (wrap64 (x4_1 + 1))) = some r := by first | (rw [hy778]; with_reducible exact H) | (have H2_ := (Option.bind_some _ _).symm.trans H; rw [hy778]; with_reducible exact H2_) | (have H2_ := (Option.bind_some _ _).symm.trans H; with_reducible exact H2_) | with_reducible exact H | (rw [hy778]; exact H) | exact H
        have Ny778 := zK hy778
        clear hy778
        have H' := zK H
        clear H
        have p772 : 0 ≤ (x4_1 : Int) := zo
        have q772 : x4_1 < (l0.length : Int) := zo
        obtain ⟨ad772, e772, hx772_0, hx772_1, hx772_2, hx772_3, hx772_4⟩ := at_T32 HR0.out x4_1 p772 q772
        cases e772
        replace hx772_0 := zt HB.out hx772_0
        replace hx772_1 := zt HB.out hx772_1
        replace hx772_2 := zt HB.out hx772_2
        replace hx772_3 := zt HB.out hx772_3
        replace hx772_4 := zt HB.out hx772_4
        replace p772 := eq_true p772
        replace q772 := eq_true q772
        go_wp2_with (first | ((with_reducible refine gate_callee (f := 18) rfl ?_); refine goesL_ (some 20) rfl rfl Try.func18 (by kernel_rfl) rfl #[.agg #[.string ((rd_T32 l0 x4_1).f0), .int .i64 ((rd_T32 l0 x4_1).f1), .int .i64 ((rd_T32 l0 x4_1).f2), .int .i64 ((rd_T32 l0 x4_1).f3), .int .i64 ((rd_T32 l0 x4_1).f4)]] rfl (by (try simp only [z6, z7, z8]); first | done | rfl | (simp only [z4, z5]; rfl)) ?_; (with_reducible refine (laws_toInstr.calls ((rd_T32 l0 x4_1).f0) ((rd_T32 l0 x4_1).f1) ((rd_T32 l0 x4_1).f2) ((rd_T32 l0 x4_1).f3) ((rd_T32 l0 x4_1).f4) t773 t774 t775 t776 t777 _ A8.out).mono ?_); rintro e w11 ⟨rfl, hb⟩; refine ⟨_, rfl, ?_⟩; have n0_ := zK (Kd.R_below (by (with_reducible repeat (first | apply Kd.R_alloc | apply Kd.R_drewN | apply Kd.R_drew)); exact HO_3.out) hb); have n1_ := zK (zL (by repeat (first | (with_reducible first | exact HB.out | apply zA | apply zB | apply zC) | exact HB.out)) hb); clear HO_3; clear HB; have HO_3 := n0_; have HB := n1_; clear n0_ n1_; (try clear hb); (try clear hb2); (try clear hk); (try clear hi); have p10 : 0 ≤ (x4_1 : Int) := zo; have q10 : (x4_1 : Int) < ((x3_1.length : Int) : Int) := zo; obtain ⟨go10, co10, eo10, gb10, gl10, cl10, HG10⟩ := Kd.R_form HO_3.out (by omega); (first | cases eo10 | (injection eo10 with ea_ en_ ec_; (first | subst ea_ | (injection ea_ with ea_; subst ea_)); subst ec_; clear en_)); have GB10 := zK gb10; have GG10 := zK HG10; clear gb10 gl10 HG10; obtain ⟨ce10, hcl10, hM10, hcc10, hfr10⟩ := Kd.R_elem HO_3.out z37 (x4_1 : Int) p10 q10; obtain rfl := k37_openM hM10; have hx10_0 : w11.cell? ⟨go10, (x4_1 : Int).toNat * 5, none⟩ = some (.string ((rd_T37 x3_1 x4_1).f0)) := hcc10 0 _ rfl; have hx10_1 : w11.cell? ⟨go10, (x4_1 : Int).toNat * 5 + 1, none⟩ = some (.int .i64 ((rd_T37 x3_1 x4_1).f1)) := hcc10 1 _ rfl; have hx10_2 : w11.cell? ⟨go10, (x4_1 : Int).toNat * 5 + 2, none⟩ = some (.int .i64 ((rd_T37 x3_1 x4_1).f2)) := hcc10 2 _ rfl; have hx10_3 : w11.cell? ⟨go10, (x4_1 : Int).toNat * 5 + 3, none⟩ = some (.int .i64 ((rd_T37 x3_1 x4_1).f3)) := hcc10 3 _ rfl; have hx10_4 : w11.cell? ⟨go10, (x4_1 : Int).toNat * 5 + 4, none⟩ = some (.int .i64 ((rd_T37 x3_1 x4_1).f4)) := hcc10 4 _ rfl; have hf10_0 : w11.frozen? ⟨go10, (x4_1 : Int).toNat * 5, none⟩ = false := hfr10 0; have hf10_1 : w11.frozen? ⟨go10, (x4_1 : Int).toNat * 5 + 1, none⟩ = false := hfr10 1; have hf10_2 : w11.frozen? ⟨go10, (x4_1 : Int).toNat * 5 + 2, none⟩ = false := hfr10 2; have hf10_3 : w11.frozen? ⟨go10, (x4_1 : Int).toNat * 5 + 3, none⟩ = false := hfr10 3; have hf10_4 : w11.frozen? ⟨go10, (x4_1 : Int).toNat * 5 + 4, none⟩ = false := hfr10 4; clear hcl10 hcc10 hfr10 hM10; replace p10 := eq_true p10; replace q10 := eq_true q10; have HX12 := zK (show Kd.R k37 37 w11 w.heap.size (fun _ => True) (.slice (some ⟨go10, 0, none⟩) x3_1.length co10) x3_1 from (by (with_reducible repeat (first | apply Kd.R_alloc | apply Kd.R_drewN | apply Kd.R_drew)); exact HO_3.out)); obtain ⟨ce12, hcl12, hM12, hcc12, hfr12⟩ := Kd.R_elem HX12.out z37 (x4_1 : Int) (zo) (by have h_ : (x4_1 : Int) < ((x3_1.length : Int) : Int) := zo; first | exact h_ | (have e_ := (Kd.R_reads' HO_3.out).1; omega) | simpa using h_); obtain rfl := k37_openM hM12; have HP12 := Kd.R_seg HX12.out (x4_1 : Int) (zo) (by have h_ : (x4_1 : Int) < ((x3_1.length : Int) : Int) := zo; first | exact h_ | (have e_ := (Kd.R_reads' HO_3.out).1; omega) | simpa using h_) (seg := [.string t773, .int .i64 t774, .int .i64 t775, .int .i64 t776, .int .i64 t777]) (j := 0) hcl12 hcc12 (show 5 ≤ 5 from by decide) (x' := (⟨t773, t774, t775, t776, t777⟩ : S37)) (k37_mkM _ _ _ (⟨t773, t774, t775, t776, t777⟩ : S37) ) (fun _ hk => hk); have hx12_0 := hcc12 0 _ rfl; (try simp only [show (k37).sz = 5 from rfl, Nat.mul_one, Nat.add_zero] at hx12_0); have hf12_0 := hfr12 0; (try simp only [show (k37).sz = 5 from rfl, Nat.mul_one, Nat.add_zero] at hf12_0); have hx12_1 := hcc12 1 _ rfl; (try simp only [show (k37).sz = 5 from rfl, Nat.mul_one, Nat.add_zero] at hx12_1); have hf12_1 := hfr12 1; (try simp only [show (k37).sz = 5 from rfl, Nat.mul_one, Nat.add_zero] at hf12_1); have hx12_2 := hcc12 2 _ rfl; (try simp only [show (k37).sz = 5 from rfl, Nat.mul_one, Nat.add_zero] at hx12_2); have hf12_2 := hfr12 2; (try simp only [show (k37).sz = 5 from rfl, Nat.mul_one, Nat.add_zero] at hf12_2); have hx12_3 := hcc12 3 _ rfl; (try simp only [show (k37).sz = 5 from rfl, Nat.mul_one, Nat.add_zero] at hx12_3); have hf12_3 := hfr12 3; (try simp only [show (k37).sz = 5 from rfl, Nat.mul_one, Nat.add_zero] at hf12_3); have hx12_4 := hcc12 4 _ rfl; (try simp only [show (k37).sz = 5 from rfl, Nat.mul_one, Nat.add_zero] at hx12_4); have hf12_4 := hfr12 4; (try simp only [show (k37).sz = 5 from rfl, Nat.mul_one, Nat.add_zero] at hf12_4); clear hcl12 hcc12 hfr12 hM12) | ((with_reducible refine gate_store (t := 37) (p := 21) rfl ?_); refine store_event (t := 37) (p := 21) (v := ?vo_w13) (w1 := (((((w11.setCell ⟨go10, (x4_1 : Int).toNat * 5, none⟩ (.string t773)).setCell ⟨go10, (x4_1 : Int).toNat * 5 + 1, none⟩ (.int .i64 t774)).setCell ⟨go10, (x4_1 : Int).toNat * 5 + 2, none⟩ (.int .i64 t775)).setCell ⟨go10, (x4_1 : Int).toNat * 5 + 3, none⟩ (.int .i64 t776)).setCell ⟨go10, (x4_1 : Int).toNat * 5 + 4, none⟩ (.int .i64 t777))) ?hg ?ho ?hn ?hr ?_; (case ho => rfl); (case hg => rfl); (case hn => rfl); (case hr => first | (go_simp; done) | (go_simp; rfl)); intro w13 hw; have hg : w11.grownBy w13 (some go10) := (by rw [hw]; exact HP12.2); have hp_ : Kd.R k37 37 w13 w.heap.size (fun _ => True) (.slice (some ⟨go10, 0, none⟩) x3_1.length co10) y778 := (by rw [hw, Ny778.out]; exact HP12.1); clear HP12; have n0_ := zK (hp_); have n1_ := zK ((by rw [hw]; exact zD (zD (zD (zD (zD (HB.out) GB10.out) GB10.out) GB10.out) GB10.out) GB10.out : Below w.heap.size w w13)); clear HO_3; clear HB; have HO_3 := n0_; have HB := n1_; clear n0_ n1_; clear hg hw hp_))
        go_roundg k1
        case measure => have := HK1.out; omega
        case rel => exact ⟨(y778), (wrap64 (x4_1 + 1)), (by first | rfl | (simp; done) | (simp [*]; done)), H', ⟨by have := HK1.out; omega⟩, ⟨by (with_reducible repeat (first | apply Kd.R_alloc | apply Kd.R_drewN | apply Kd.R_drew)); exact HO_3.out⟩, ⟨by repeat (first | (with_reducible first | exact HB.out | apply zA | apply zB | apply zC) | exact HB.out)⟩⟩
       ·rw [if_neg c9] at H
        exact absurd H (by simp)
      ·rw [if_neg c7] at H
       exact absurd H (by simp)
     ·rw [if_neg c6] at H
      have c6b0 : decide (x4_1 < (l0.length : Int)) = false := decide_eq_false c6
      clear c6
      obtain rfl := Option.some.inj H
      go_wp2
      go_ret
      exact ⟨_, by first | rfl | (simp [errW_none, errW_some] <;> rfl) | (simp [*, errW_none, errW_some] <;> rfl), by (with_reducible repeat (first | apply Kd.R_alloc | apply Kd.R_drewN | apply Kd.R_drew)); exact HO_3.out, by repeat (first | (with_reducible first | exact HB.out | apply zA | apply zB | apply zC) | exact HB.out)⟩
  ·rw [if_neg c3] at H
   exact absurd H (by simp)
 ·rw [if_neg c2] at H
  exact absurd H (by simp)

/-! ### impl_IsCode_c1: function 96 -/
def impl_IsCode_c1.f (k : Nat) (a0_0 : ByteArray) (a0_1 : Int) (a0_2 : Int) (a0_3 : Int) (a0_4 : Int) : Option (Bool) := (impl_IsInstr.f k a0_0 a0_1 a0_2 a0_3 a0_4).bind fun t780 => (some (!t780))
theorem impl_IsCode_c1.mono : ∀ a0 a1 a2 a3 a4 k, LeO (impl_IsCode_c1.f k a0 a1 a2 a3 a4) (impl_IsCode_c1.f (k + 1) a0 a1 a2 a3 a4) := by
 intro a0 a1 a2 a3 a4 k
 unfold impl_IsCode_c1.f
 repeat' first
   | (with_reducible exact impl_IsInstr.mono _ _ _ _ _ _)
   | (with_reducible exact LeO.refl _)
   | (with_reducible exact LeO.none _)
   | (with_reducible refine LeO.ite ?_ ?_)
   | (with_reducible refine LeO.bind ?_ (fun _ => ?_))
   | exact impl_IsInstr.mono _ _ _ _ _ _
   | exact LeO.none _
   | refine LeO.ite ?_ ?_
   | refine LeO.bind ?_ (fun _ => ?_)
set_option maxHeartbeats 8000000 in
set_option maxRecDepth 100000 in
theorem impl_IsCode_c1.calls (k : Nat) (a0_0 : ByteArray) (a0_1 : Int) (a0_2 : Int) (a0_3 : Int) (a0_4 : Int) (r : Bool) (w : World) (h : impl_IsCode_c1.f k a0_0 a0_1 a0_2 a0_3 a0_4 = some r) :
  Calls Try.prog 96 #[.agg #[.string a0_0, .int .i64 a0_1, .int .i64 a0_2, .int .i64 a0_3, .int .i64 a0_4]] w fun e w' => e = .returned (.bool r) ∧ Below w.heap.size w w' := by
 have hu37 := Try.underlying37
 have HB := zK (Below.refl w.heap.size w)
 have H : ((impl_IsInstr.f k a0_0 a0_1 a0_2 a0_3 a0_4).bind fun t780 => (some (!t780))) = some r := h
 clear h
 replace H := Option.bind_eq_some_iff.mp H
 obtain ⟨t780, A20, H⟩ := H
 replace H : (some (!t780)) = some r := H
 have A2 := zK A20
 clear A20
 obtain rfl := Option.some.inj H
 go_enter Try.func96, Try.ntmps96
 go_wp2_with (first | ((with_reducible refine gate_dst (N := 1) rfl ?_); refine box_event ?hg (N := 1) ?hd (cs := #[.string a0_0, .int .i64 a0_1, .int .i64 a0_2, .int .i64 a0_3, .int .i64 a0_4]) (t := 37) ?hr ?_; (case hd => rfl); (case hg => rfl); (case hr => first | (go_simp; done) | (go_simp; rfl)); intro gb779 hg w3 hbox hb; have n0_ := zK (zL (by repeat (first | (with_reducible first | exact HB.out | apply zA | apply zB | apply zC) | exact HB.out)) hb); have n1_ := zK (hbox); have n2_ := zK ((by rw [hg]; exact (zN (by repeat (first | (with_reducible first | exact HB.out | apply zA | apply zB | apply zC) | exact HB.out))) : w.heap.size ≤ gb779)); have n3_ := n2_; clear HB; have HB := n0_; have BK779 := n1_; have GW779 := n2_; have GE779 := n3_; clear n0_ n1_ n2_ n3_; clear hb hbox hg; have hcz4_0 : w3.cell? ⟨gb779, 0, none⟩ = some (.string a0_0) := (zI BK779.out 0).trans rfl; have hcz4_1 : w3.cell? ⟨gb779, 1, none⟩ = some (.int .i64 a0_1) := (zI BK779.out 1).trans rfl; have hcz4_2 : w3.cell? ⟨gb779, 2, none⟩ = some (.int .i64 a0_2) := (zI BK779.out 2).trans rfl; have hcz4_3 : w3.cell? ⟨gb779, 3, none⟩ = some (.int .i64 a0_3) := (zI BK779.out 3).trans rfl; have hcz4_4 : w3.cell? ⟨gb779, 4, none⟩ = some (.int .i64 a0_4) := (zI BK779.out 4).trans rfl; have hfz4_0 := zH BK779.out 0; have hfz4_1 := zH BK779.out 1; have hfz4_2 := zH BK779.out 2; have hfz4_3 := zH BK779.out 3; have hfz4_4 := zH BK779.out 4) | ((with_reducible refine gate_callee (f := 51) rfl ?_); refine goesL_ (some 4) rfl rfl Try.func51 (by kernel_rfl) rfl #[.agg #[.string a0_0, .int .i64 a0_1, .int .i64 a0_2, .int .i64 a0_3, .int .i64 a0_4]] rfl (by (try simp only [z6, z7, z8]); first | done | rfl | (simp only [z4, z5]; rfl)) ?_; (with_reducible refine (impl_IsInstr.calls k a0_0 a0_1 a0_2 a0_3 a0_4 t780 _ A2.out).mono ?_); rintro e w5 ⟨rfl, hb⟩; refine ⟨_, rfl, ?_⟩; have n0_ := zK (zM (g := gb779) (o := .cells #[.string a0_0, .int .i64 a0_1, .int .i64 a0_2, .int .i64 a0_3, .int .i64 a0_4] 37 (0, 0)) (by (with_reducible repeat (first | refine zE ?_ _ | refine zF ?_ | refine zG ?_ _)); exact BK779.out) hb); have n1_ := zK (zL (by repeat (first | (with_reducible first | exact HB.out | apply zA | apply zB | apply zC | refine zD ?_ GE779.out) | exact HB.out)) hb); clear BK779; clear HB; have BK779 := n0_; have HB := n1_; clear n0_ n1_; (try clear hb); (try clear hb2); (try clear hk); (try clear hi)))
 go_ret
 exact ⟨by first | rfl | (simp [errW_none, errW_some] <;> rfl) | (simp [*, errW_none, errW_some] <;> rfl), by repeat (first | (with_reducible first | exact HB.out | apply zA | apply zB | apply zC | refine zD ?_ GE779.out) | exact HB.out)⟩

/-! ### impl_Instr_impl_IsCode_c1_161: function 161 -/
def impl_Instr_impl_IsCode_c1_161.l0 : Nat → List (S37) → Int → Int → Option (Int)
 | 0, _, _, _ => none
 | k + 1, x0, x7, x8 => if x8 < x7 then (if 0 ≤ x8 then (if x8 < (x0.length : Int) then ((impl_IsCode_c1.f k ((rd_T37 x0 x8).f0) ((rd_T37 x0 x8).f1) ((rd_T37 x0 x8).f2) ((rd_T37 x0 x8).f3) ((rd_T37 x0 x8).f4)).bind fun t782 => (if t782 = true then (some x8) else (impl_Instr_impl_IsCode_c1_161.l0 k x0 x7 (wrap64 (x8 + 1))))) else (none)) else (none)) else (some (-1))
def impl_Instr_impl_IsCode_c1_161.f (k : Nat) (l0 : List (S37)) : Option (Int) := impl_Instr_impl_IsCode_c1_161.l0 k l0 (l0.length : Int) 0
theorem impl_Instr_impl_IsCode_c1_161.mono_l : ∀ k, (∀ y0 y1 y2, LeO (impl_Instr_impl_IsCode_c1_161.l0 k y0 y1 y2) (impl_Instr_impl_IsCode_c1_161.l0 (k + 1) y0 y1 y2))
 | 0 => fun _ _ _ r h => by simp [impl_Instr_impl_IsCode_c1_161.l0] at h
 | k + 1 => by
  have ih0 := impl_Instr_impl_IsCode_c1_161.mono_l k
  ·intro y0 y1 y2
   unfold impl_Instr_impl_IsCode_c1_161.l0
   repeat' first
   | (with_reducible exact ih0 _ _ _)
   | (with_reducible exact impl_IsCode_c1.mono _ _ _ _ _ _)
   | (with_reducible exact LeO.refl _)
   | (with_reducible exact LeO.none _)
   | (with_reducible refine LeO.ite ?_ ?_)
   | (with_reducible refine LeO.bind ?_ (fun _ => ?_))
   | exact ih0 _ _ _
   | exact impl_IsCode_c1.mono _ _ _ _ _ _
   | exact LeO.none _
   | refine LeO.ite ?_ ?_
   | refine LeO.bind ?_ (fun _ => ?_)
theorem impl_Instr_impl_IsCode_c1_161.mono : ∀ a0 k, LeO (impl_Instr_impl_IsCode_c1_161.f k a0) (impl_Instr_impl_IsCode_c1_161.f (k + 1) a0) := by
 intro a0 k
 have ih0 := impl_Instr_impl_IsCode_c1_161.mono_l k
 unfold impl_Instr_impl_IsCode_c1_161.f
 repeat' first
   | (with_reducible exact ih0 _ _ _)
   | (with_reducible exact impl_IsCode_c1.mono _ _ _ _ _ _)
   | (with_reducible exact LeO.refl _)
   | (with_reducible exact LeO.none _)
   | (with_reducible refine LeO.ite ?_ ?_)
   | (with_reducible refine LeO.bind ?_ (fun _ => ?_))
   | exact ih0 _ _ _
   | exact impl_IsCode_c1.mono _ _ _ _ _ _
   | exact LeO.none _
   | refine LeO.ite ?_ ?_
   | refine LeO.bind ?_ (fun _ => ?_)
set_option maxHeartbeats 8000000 in
set_option maxRecDepth 100000 in
theorem impl_Instr_impl_IsCode_c1_161.calls (k : Nat) (A0 : Option Addr) (c0 : Nat) (l0 : List (S37)) (r : Int) (w : World) (hr0 : Kd.C k37 w A0 l0.length l0) (hc0 : l0.length ≤ c0) (h : impl_Instr_impl_IsCode_c1_161.f k l0 = some r) :
  Calls Try.prog 118 #[.slice A0 l0.length c0, .func (.func 96) #[] #[]] w fun e w' => e = .returned (.int .i64 r) ∧ Below w.heap.size w w' := by
 have hu37 := Try.underlying37
 have HR0 := zK hr0
 have HC0 := zK hc0
 clear hr0 hc0
 have HB := zK (Below.refl w.heap.size w)
 have H : (impl_Instr_impl_IsCode_c1_161.l0 k l0 (l0.length : Int) 0) = some r := h
 clear h
 have H' := zK H
 clear H
 go_enter Try.func118, Try.ntmps118
 go_wp2
 go_loopg [8] k (fun kq v8 w' => ∃ (x8_1 : Int), v8 = .int .i64 x8_1 ∧ Aside0 (impl_Instr_impl_IsCode_c1_161.l0 kq l0 (l0.length : Int) x8_1 = some r) ∧ Aside0 (kq ≤ k) ∧ Aside0 (Below w.heap.size w w'))
 case atStart => exact ⟨(0), (by first | rfl | (simp; done) | (simp [*]; done)), H', ⟨Nat.le_refl _⟩, ⟨by repeat (first | (with_reducible first | exact HB.out | apply zA | apply zB | apply zC) | exact HB.out)⟩⟩
 case round =>
  clear H'
  try clear c1
  obtain ⟨x8_1, rfl, HA, HK1, HB⟩ := hrel
  cases gk with
  | zero => exact absurd HA.out (by simp [impl_Instr_impl_IsCode_c1_161.l0])
  | succ k1 =>
   have H := HA.out
   clear HA
   simp only [impl_Instr_impl_IsCode_c1_161.l0] at H
   by_cases c2 : x8_1 < (l0.length : Int)
   ·rw [if_pos c2] at H
    have c2b0 : decide (x8_1 < (l0.length : Int)) = true := decide_eq_true c2
    clear c2
    by_cases c3 : 0 ≤ x8_1
    ·rw [if_pos c3] at H
     have c3b0 : decide (0 ≤ x8_1) = true := decide_eq_true c3
     clear c3
     by_cases c4 : x8_1 < (l0.length : Int)
     ·rw [if_pos c4] at H
      have c4b0 : decide (x8_1 < (l0.length : Int)) = true := decide_eq_true c4
      clear c4
      replace H := Option.bind_eq_some_iff.mp H
      obtain ⟨t782, A50, H⟩ := H
      replace H : (if t782 = true then (some x8_1) else (impl_Instr_impl_IsCode_c1_161.l0 k1 l0 (l0.length : Int) (wrap64 (x8_1 + 1)))) = some r := H
      have A5 := zK A50
      clear A50
      by_cases c6 : t782 = true
      ·subst c6
       rw [if_pos rfl] at H
       obtain rfl := Option.some.inj H
       have p781 : 0 ≤ (x8_1 : Int) := zo
       have q781 : x8_1 < (l0.length : Int) := zo
       obtain ⟨ad781, e781, hx781_0, hx781_1, hx781_2, hx781_3, hx781_4⟩ := at_T37 HR0.out x8_1 p781 q781
       cases e781
       replace hx781_0 := zt HB.out hx781_0
       replace hx781_1 := zt HB.out hx781_1
       replace hx781_2 := zt HB.out hx781_2
       replace hx781_3 := zt HB.out hx781_3
       replace hx781_4 := zt HB.out hx781_4
       replace p781 := eq_true p781
       replace q781 := eq_true q781
       go_wp2_with (first | (go_at_call 96; (with_reducible refine (impl_IsCode_c1.calls k1 ((rd_T37 l0 x8_1).f0) ((rd_T37 l0 x8_1).f1) ((rd_T37 l0 x8_1).f2) ((rd_T37 l0 x8_1).f3) ((rd_T37 l0 x8_1).f4) true _ A5.out).mono ?_); rintro e w7 ⟨rfl, hb⟩; have n0_ := zK (zL (by repeat (first | (with_reducible first | exact HB.out | apply zA | apply zB | apply zC) | exact HB.out)) hb); clear HB; have HB := n0_; clear n0_; (try clear hb); (try clear hb2); (try clear hk); (try clear hi)))
       go_ret
       exact ⟨by first | rfl | (simp [errW_none, errW_some] <;> rfl) | (simp [*, errW_none, errW_some] <;> rfl), by repeat (first | (with_reducible first | exact HB.out | apply zA | apply zB | apply zC) | exact HB.out)⟩
      ·replace c6 := Bool.eq_false_iff.mpr c6
       subst c6
       rw [if_neg (show ¬ (false = true) by decide)] at H
       have H' := zK H
       clear H
       have p781 : 0 ≤ (x8_1 : Int) := zo
       have q781 : x8_1 < (l0.length : Int) := zo
       obtain ⟨ad781, e781, hx781_0, hx781_1, hx781_2, hx781_3, hx781_4⟩ := at_T37 HR0.out x8_1 p781 q781
       cases e781
       replace hx781_0 := zt HB.out hx781_0
       replace hx781_1 := zt HB.out hx781_1
       replace hx781_2 := zt HB.out hx781_2
       replace hx781_3 := zt HB.out hx781_3
       replace hx781_4 := zt HB.out hx781_4
       replace p781 := eq_true p781
       replace q781 := eq_true q781
       go_wp2_with (first | (go_at_call 96; (with_reducible refine (impl_IsCode_c1.calls k1 ((rd_T37 l0 x8_1).f0) ((rd_T37 l0 x8_1).f1) ((rd_T37 l0 x8_1).f2) ((rd_T37 l0 x8_1).f3) ((rd_T37 l0 x8_1).f4) false _ A5.out).mono ?_); rintro e w8 ⟨rfl, hb⟩; have n0_ := zK (zL (by repeat (first | (with_reducible first | exact HB.out | apply zA | apply zB | apply zC) | exact HB.out)) hb); clear HB; have HB := n0_; clear n0_; (try clear hb); (try clear hb2); (try clear hk); (try clear hi)))
       go_roundg k1
       case measure => have := HK1.out; omega
       case rel => exact ⟨(wrap64 (x8_1 + 1)), (by first | rfl | (simp; done) | (simp [*]; done)), H', ⟨by have := HK1.out; omega⟩, ⟨by repeat (first | (with_reducible first | exact HB.out | apply zA | apply zB | apply zC) | exact HB.out)⟩⟩
     ·rw [if_neg c4] at H
      exact absurd H (by simp)
    ·rw [if_neg c3] at H
     exact absurd H (by simp)
   ·rw [if_neg c2] at H
    have c2b0 : decide (x8_1 < (l0.length : Int)) = false := decide_eq_false c2
    clear c2
    obtain rfl := Option.some.inj H
    go_wp2
    go_ret
    exact ⟨by first | rfl | (simp [errW_none, errW_some] <;> rfl) | (simp [*, errW_none, errW_some] <;> rfl), by repeat (first | (with_reducible first | exact HB.out | apply zA | apply zB | apply zC) | exact HB.out)⟩

end Go.Proofs.Ythnckplfnmkmpaa.F
