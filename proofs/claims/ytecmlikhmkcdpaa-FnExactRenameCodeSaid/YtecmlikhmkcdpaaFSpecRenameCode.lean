/- Contracts: spec_RenameCode. -/
import Derived.Test.YtecmlikhmkcdpaaFK
import Derived.Test.YtecmlikhmkcdpaaFLawsSzInstr
import Derived.Test.YtecmlikhmkcdpaaFSpecL1Has
namespace Go.Proofs.Ytecmlikhmkcdpaa.F
open Go.RowKit Go.Proofs.YtecmlikhmkcdpaaW.PrintWords Go.Proofs.YtecmlikhmkcdpaaW.PrintLast Go.Proofs.YtecmlikhmkcdpaaW.PrintMore
attribute [local go_sem] max2_int min2_int max_two min_two max_three min_three max_four min_four   -- for this text's walks alone
set_option linter.unusedVariables false
set_option linter.unusedSimpArgs false

/-! ### spec_RenameCode: function 47 -/
mutual
def spec_RenameCode.j0 : Nat → List (S67) → List Int → Bool → Option ((List (S67)) × Bool)
 | 0, _, _, _ => none
 | k + 1, x0, x1, x22 => if x22 = true then (some (([] : List (S67)), false)) else (spec_RenameCode.l0 k x1 ([] : List (S67)) x0 (x0.length : Int) 0)
def spec_RenameCode.l0 : Nat → List Int → List (S67) → List (S67) → Int → Int → Option ((List (S67)) × Bool)
 | 0, _, _, _, _, _ => none
 | k + 1, x1, x6, x23, x24, x25 => if x25 < x24 then (if 0 ≤ x25 then (if x25 < (x23.length : Int) then ((spec_cdShape.f k ((rd_T67 x23 x25).f0)).bind fun bt876 => (if 0 ≤ ((rd_T67 x23 x25).f1) then (if ((rd_T67 x23 x25).f1) < (x1.length : Int) then (if bt876.2.1 = true then (if 0 ≤ ((rd_T67 x23 x25).f2) then (if ((rd_T67 x23 x25).f2) < (x1.length : Int) then (if bt876.2.2.1 = true then (if 0 ≤ ((rd_T67 x23 x25).f3) then (if ((rd_T67 x23 x25).f3) < (x1.length : Int) then (if x6.length < 2932031007402 then (spec_RenameCode.l0 k x1 (x6 ++ [(⟨(rd_T67 x23 x25).f0, rd x1 ((rd_T67 x23 x25).f1), rd x1 ((rd_T67 x23 x25).f2), rd x1 ((rd_T67 x23 x25).f3), (rd_T67 x23 x25).f4⟩ : S67)]) x23 x24 (wrap64 (x25 + 1))) else (none)) else (none)) else (none)) else (if x6.length < 2932031007402 then (spec_RenameCode.l0 k x1 (x6 ++ [(⟨(rd_T67 x23 x25).f0, rd x1 ((rd_T67 x23 x25).f1), rd x1 ((rd_T67 x23 x25).f2), 0, (rd_T67 x23 x25).f4⟩ : S67)]) x23 x24 (wrap64 (x25 + 1))) else (none))) else (none)) else (none)) else (if bt876.2.2.1 = true then (if 0 ≤ ((rd_T67 x23 x25).f3) then (if ((rd_T67 x23 x25).f3) < (x1.length : Int) then (if x6.length < 2932031007402 then (spec_RenameCode.l0 k x1 (x6 ++ [(⟨(rd_T67 x23 x25).f0, rd x1 ((rd_T67 x23 x25).f1), 0, rd x1 ((rd_T67 x23 x25).f3), (rd_T67 x23 x25).f4⟩ : S67)]) x23 x24 (wrap64 (x25 + 1))) else (none)) else (none)) else (none)) else (if x6.length < 2932031007402 then (spec_RenameCode.l0 k x1 (x6 ++ [(⟨(rd_T67 x23 x25).f0, rd x1 ((rd_T67 x23 x25).f1), 0, 0, (rd_T67 x23 x25).f4⟩ : S67)]) x23 x24 (wrap64 (x25 + 1))) else (none)))) else (none)) else (none))) else (none)) else (none)) else (some (x6, true))
end
def spec_RenameCode.f (k : Nat) (l0 : List (S67)) (l1 : List Int) : Option ((List (S67)) × Bool) := (spec_cdCode.f k l0).bind fun t872 => (if t872 = true then ((spec_cdNames.f k l1).bind fun t873 => (spec_RenameCode.j0 k l0 l1 (!t873))) else (spec_RenameCode.j0 k l0 l1 true))
theorem spec_RenameCode.mono_l : ∀ k, (∀ y0 y1 y2, LeO (spec_RenameCode.j0 k y0 y1 y2) (spec_RenameCode.j0 (k + 1) y0 y1 y2)) ∧ (∀ y0 y1 y2 y3 y4, LeO (spec_RenameCode.l0 k y0 y1 y2 y3 y4) (spec_RenameCode.l0 (k + 1) y0 y1 y2 y3 y4))
 | 0 => ⟨fun _ _ _ r h => by simp [spec_RenameCode.j0] at h, fun _ _ _ _ _ r h => by simp [spec_RenameCode.l0] at h⟩
 | k + 1 => by
  obtain ⟨ih0, ih1⟩ := spec_RenameCode.mono_l k
  refine ⟨?_, ?_⟩
  ·intro y0 y1 y2
   unfold spec_RenameCode.j0
   repeat' first
   | (with_reducible exact ih0 _ _ _)
   | (with_reducible exact ih1 _ _ _ _ _)
   | (with_reducible exact spec_cdCode.mono _ _)
   | (with_reducible exact spec_cdNames.mono _ _)
   | (with_reducible exact spec_cdShape.mono _ _)
   | (with_reducible exact LeO.refl _)
   | (with_reducible exact LeO.none _)
   | (with_reducible refine LeO.ite ?_ ?_)
   | (with_reducible refine LeO.bind ?_ (fun _ => ?_))
   | exact ih0 _ _ _
   | exact ih1 _ _ _ _ _
   | exact spec_cdCode.mono _ _
   | exact spec_cdNames.mono _ _
   | exact spec_cdShape.mono _ _
   | exact LeO.none _
   | refine LeO.ite ?_ ?_
   | refine LeO.bind ?_ (fun _ => ?_)
  ·intro y0 y1 y2 y3 y4
   unfold spec_RenameCode.l0
   repeat' first
   | (with_reducible exact ih0 _ _ _)
   | (with_reducible exact ih1 _ _ _ _ _)
   | (with_reducible exact spec_cdCode.mono _ _)
   | (with_reducible exact spec_cdNames.mono _ _)
   | (with_reducible exact spec_cdShape.mono _ _)
   | (with_reducible exact LeO.refl _)
   | (with_reducible exact LeO.none _)
   | (with_reducible refine LeO.ite ?_ ?_)
   | (with_reducible refine LeO.bind ?_ (fun _ => ?_))
   | exact ih0 _ _ _
   | exact ih1 _ _ _ _ _
   | exact spec_cdCode.mono _ _
   | exact spec_cdNames.mono _ _
   | exact spec_cdShape.mono _ _
   | exact LeO.none _
   | refine LeO.ite ?_ ?_
   | refine LeO.bind ?_ (fun _ => ?_)
theorem spec_RenameCode.mono : ∀ a0 a1 k, LeO (spec_RenameCode.f k a0 a1) (spec_RenameCode.f (k + 1) a0 a1) := by
 intro a0 a1 k
 obtain ⟨ih0, ih1⟩ := spec_RenameCode.mono_l k
 unfold spec_RenameCode.f
 repeat' first
   | (with_reducible exact ih0 _ _ _)
   | (with_reducible exact ih1 _ _ _ _ _)
   | (with_reducible exact spec_cdCode.mono _ _)
   | (with_reducible exact spec_cdNames.mono _ _)
   | (with_reducible exact spec_cdShape.mono _ _)
   | (with_reducible exact LeO.refl _)
   | (with_reducible exact LeO.none _)
   | (with_reducible refine LeO.ite ?_ ?_)
   | (with_reducible refine LeO.bind ?_ (fun _ => ?_))
   | exact ih0 _ _ _
   | exact ih1 _ _ _ _ _
   | exact spec_cdCode.mono _ _
   | exact spec_cdNames.mono _ _
   | exact spec_cdShape.mono _ _
   | exact LeO.none _
   | refine LeO.ite ?_ ?_
   | refine LeO.bind ?_ (fun _ => ?_)
def spec_RenameCode.T8 : Bool × List (List Nat × List Nat) := (true, [([], []), ([0], [0]), ([], []), ([], []), ([3], [3]), ([2, 4], [2, 4]), ([5], [5]), ([], []), ([7], [7]), ([1, 6, 8], [1, 6, 8]), ([], []), ([10, 9, 0, 1, 2, 3, 4, 5, 6, 7, 8, 9, 10], [9, 10])])
def spec_RenameCode.B8 : List Nat := [0, 1, 0, 0, 8, 28, 60, 0, 128, 511, 0, 2047]
theorem spec_RenameCode.tab8 : rtab .any (opsOf Try.f47 8) = spec_RenameCode.T8 := by kernel_rfl
theorem spec_RenameCode.bits8 : waitsOk spec_RenameCode.T8.2 spec_RenameCode.B8 = true := by kernel_rfl
set_option maxHeartbeats 40000000 in
set_option maxRecDepth 100000 in
theorem spec_RenameCode.calls (k : Nat) (A0 : Option Addr) (c0 : Nat) (l0 : List (S67)) (A1 : Option Addr) (c1 : Nat) (l1 : List Int) (r1 : List (S67)) (r2 : Bool) (w : World) (hr0 : Kd.C k67 w A0 l0.length l0) (hc0 : l0.length ≤ c0) (hr1 : Kd.C (Kd.int .i64) w A1 l1.length l1) (hc1 : l1.length ≤ c1) (h : spec_RenameCode.f k l0 l1 = some (r1, r2)) :
  Calls Try.prog 47 #[.slice A0 l0.length c0, .slice A1 l1.length c1] w fun e w' => ∃ v0_ : Value, e = .returned (.tuple #[v0_, .bool r2]) ∧ Kd.R k67 67 w' w.heap.size (fun _ => True) v0_ r1 ∧ Below w.heap.size w w' := by
 have hu67 := Try.underlying67
 have HR0 := zK hr0
 have HC0 := zK hc0
 clear hr0 hc0
 have HR1 := zK hr1
 have HC1 := zK hc1
 clear hr1 hc1
 have HB := zK (Below.refl w.heap.size w)
 have H : ((spec_cdCode.f k l0).bind fun t872 => (if t872 = true then ((spec_cdNames.f k l1).bind fun t873 => (spec_RenameCode.j0 k l0 l1 (!t873))) else (spec_RenameCode.j0 k l0 l1 true))) = some (r1, r2) := h
 clear h
 have HC3 := zK H
 clear H
 go_enter Try.func47, Try.ntmps47
 go_upto_region 1 with (fail)
 go_cut [22] (fun v22 wc => ∃ (kq : Nat) (x22_2 : Bool), v22 = .bool x22_2 ∧ Aside0 (spec_RenameCode.j0 kq l0 l1 x22_2 = some (r1, r2)) ∧ Aside0 (kq ≤ k) ∧ Aside0 (Below w.heap.size w wc))
 case first =>
  have H := HC3.out
  clear HC3
  replace H := Option.bind_eq_some_iff.mp H
  obtain ⟨t872, A40, H⟩ := H
  replace H : (if t872 = true then ((spec_cdNames.f k l1).bind fun t873 => (spec_RenameCode.j0 k l0 l1 (!t873))) else (spec_RenameCode.j0 k l0 l1 true)) = some (r1, r2) := H
  have A4 := zK A40
  clear A40
  by_cases c5 : t872 = true
  ·subst c5
   rw [if_pos rfl] at H
   replace H := Option.bind_eq_some_iff.mp H
   obtain ⟨t873, A60, H⟩ := H
   replace H : (spec_RenameCode.j0 k l0 l1 (!t873)) = some (r1, r2) := H
   have A6 := zK A60
   clear A60
   have H' := zK H
   clear H
   go_wp2_with (first | ((with_reducible refine gate_callee (f := 58) rfl ?_); refine goesL_ (some 16) rfl rfl Try.func58 (by kernel_rfl) rfl #[.slice A0 l0.length c0] rfl (by (try simp only [z6, z7, z8]); first | done | rfl | (simp only [z4, z5]; rfl)) ?_; (with_reducible refine (spec_cdCode.calls k _ _ l0 true _ ?side1 ?side2 A4.out).mono ?_); (case side1 => repeat (first | exact (Kd.C_below HR0.out HB.out) | (with_reducible refine Kd.C_alloc ?_ _) | (with_reducible refine Kd.C_drewN ?_ _) | (with_reducible refine Kd.C_drew ?_))); (case side2 => exact HC0.out); rintro e w7 ⟨rfl, hb⟩; refine ⟨_, rfl, ?_⟩; have n0_ := zK (zL (by repeat (first | (with_reducible first | exact HB.out | apply zA | apply zB | apply zC) | exact HB.out)) hb); clear HB; have HB := n0_; clear n0_; (try clear hb); (try clear hb2); (try clear hk); (try clear hi)) | (go_at_call 91; (with_reducible refine (spec_cdNames.calls k _ _ l1 t873 _ ?side1 ?side2 A6.out).mono ?_); (case side1 => repeat (first | exact (Kd.C_below HR1.out HB.out) | (with_reducible refine Kd.C_alloc ?_ _) | (with_reducible refine Kd.C_drewN ?_ _) | (with_reducible refine Kd.C_drew ?_))); (case side2 => exact HC1.out); rintro e w' ⟨rfl, ⟨nd, rfl⟩⟩))
   go_meet
   case rel => exact ⟨_, (!t873), (by first | rfl | (simp; done) | (simp [*]; done)), H', ⟨by first | omega | exact Nat.le_refl _⟩, ⟨by repeat (first | (with_reducible first | exact HB.out | apply zA | apply zB | apply zC) | exact HB.out)⟩⟩
  ·replace c5 := Bool.eq_false_iff.mpr c5
   subst c5
   rw [if_neg (show ¬ (false = true) by decide)] at H
   have H' := zK H
   clear H
   go_wp2_with (first | ((with_reducible refine gate_callee (f := 58) rfl ?_); refine goesL_ (some 16) rfl rfl Try.func58 (by kernel_rfl) rfl #[.slice A0 l0.length c0] rfl (by (try simp only [z6, z7, z8]); first | done | rfl | (simp only [z4, z5]; rfl)) ?_; (with_reducible refine (spec_cdCode.calls k _ _ l0 false _ ?side1 ?side2 A4.out).mono ?_); (case side1 => repeat (first | exact (Kd.C_below HR0.out HB.out) | (with_reducible refine Kd.C_alloc ?_ _) | (with_reducible refine Kd.C_drewN ?_ _) | (with_reducible refine Kd.C_drew ?_))); (case side2 => exact HC0.out); rintro e w8 ⟨rfl, hb⟩; refine ⟨_, rfl, ?_⟩; have n0_ := zK (zL (by repeat (first | (with_reducible first | exact HB.out | apply zA | apply zB | apply zC) | exact HB.out)) hb); clear HB; have HB := n0_; clear n0_; (try clear hb); (try clear hb2); (try clear hk); (try clear hi)))
   go_meet
   case rel => exact ⟨_, (true), (by first | rfl | (simp; done) | (simp [*]; done)), H', ⟨by first | omega | exact Nat.le_refl _⟩, ⟨by repeat (first | (with_reducible first | exact HB.out | apply zA | apply zB | apply zC) | exact HB.out)⟩⟩
 case rest =>
  clear HC3
  try clear c1
  try clear p2
  try clear c4
  try clear c5
  obtain ⟨kq, x22_2, rfl, HA, HJ2, HB⟩ := hcut
  cases kq with
  | zero => exact absurd HA.out (by simp [spec_RenameCode.j0])
  | succ kj2 =>
   have H := HA.out
   clear HA
   simp only [spec_RenameCode.j0] at H
   by_cases c9 : x22_2 = true
   ·subst c9
    rw [if_pos rfl] at H
    simp only [Option.some.injEq, Prod.mk.injEq] at H
    obtain ⟨rfl, rfl⟩ := H
    go_wp2
    go_ret2
    exact ⟨_, by first | rfl | (simp [errW_none, errW_some] <;> rfl) | (simp [*, errW_none, errW_some] <;> rfl), by first | exact Kd.R_nil _ _ _ _ _ | exact Kd.N_nil _ _ _ _ _ | exact Kd.V_nil _ _ _ _ _ | exact Kd.Q_nil _ _ _ _ _ | exact Kd.S_nil _ _ _ _ _, by repeat (first | (with_reducible first | exact HB.out | apply zA | apply zB | apply zC) | exact HB.out)⟩
   ·replace c9 := Bool.eq_false_iff.mpr c9
    subst c9
    rw [if_neg (show ¬ (false = true) by decide)] at H
    have H' := zK H
    clear H
    go_wp2
    go_loopg [6, 25] kj2 (fun kq v6 v25 w' => ∃ (x6_2 : List (S67)) (x25_2 : Int), v25 = .int .i64 x25_2 ∧ Aside0 (spec_RenameCode.l0 kq l1 x6_2 l0 (l0.length : Int) x25_2 = some (r1, r2)) ∧ Aside0 (kq ≤ kj2) ∧ Aside0 (Kd.R k67 67 w' w.heap.size (fun _ => True) v6 x6_2) ∧ Aside0 (Below w.heap.size w w'))
    case atStart => exact ⟨(([] : List (S67))), (0), (by first | rfl | (simp; done) | (simp [*]; done)), H', ⟨Nat.le_refl _⟩, ⟨by first | exact Kd.R_nil _ _ _ _ _ | exact Kd.N_nil _ _ _ _ _ | exact Kd.V_nil _ _ _ _ _ | exact Kd.Q_nil _ _ _ _ _ | exact Kd.S_nil _ _ _ _ _⟩, ⟨by repeat (first | (with_reducible first | exact HB.out | apply zA | apply zB | apply zC) | exact HB.out)⟩⟩
    case round =>
     clear H'
     try clear c1
     try clear p2
     try clear c4
     try clear c5
     try clear c9
     try clear p2
     obtain ⟨x6_2, x25_2, rfl, HA, HK2, HO_6, HB⟩ := hrel
     cases gk with
     | zero => exact absurd HA.out (by simp [spec_RenameCode.l0])
     | succ k2 =>
      have H := HA.out
      clear HA
      simp only [spec_RenameCode.l0] at H
      by_cases c10 : x25_2 < (l0.length : Int)
      ·rw [if_pos c10] at H
       have c10b0 : decide (x25_2 < (l0.length : Int)) = true := decide_eq_true c10
       clear c10
       by_cases c11 : 0 ≤ x25_2
       ·rw [if_pos c11] at H
        have c11b0 : decide (0 ≤ x25_2) = true := decide_eq_true c11
        clear c11
        by_cases c12 : x25_2 < (l0.length : Int)
        ·rw [if_pos c12] at H
         have c12b0 : decide (x25_2 < (l0.length : Int)) = true := decide_eq_true c12
         clear c12
         replace H := Option.bind_eq_some_iff.mp H
         obtain ⟨⟨t876, t877, t878, t879, t880⟩, A130, H⟩ := H
         replace H : (if 0 ≤ ((rd_T67 l0 x25_2).f1) then (if ((rd_T67 l0 x25_2).f1) < (l1.length : Int) then (if t877 = true then (if 0 ≤ ((rd_T67 l0 x25_2).f2) then (if ((rd_T67 l0 x25_2).f2) < (l1.length : Int) then (if t878 = true then (if 0 ≤ ((rd_T67 l0 x25_2).f3) then (if ((rd_T67 l0 x25_2).f3) < (l1.length : Int) then (if x6_2.length < 2932031007402 then (spec_RenameCode.l0 k2 l1 (x6_2 ++ [(⟨(rd_T67 l0 x25_2).f0, rd l1 ((rd_T67 l0 x25_2).f1), rd l1 ((rd_T67 l0 x25_2).f2), rd l1 ((rd_T67 l0 x25_2).f3), (rd_T67 l0 x25_2).f4⟩ : S67)]) l0 (l0.length : Int) (wrap64 (x25_2 + 1))) else (none)) else (none)) else (none)) else (if x6_2.length < 2932031007402 then (spec_RenameCode.l0 k2 l1 (x6_2 ++ [(⟨(rd_T67 l0 x25_2).f0, rd l1 ((rd_T67 l0 x25_2).f1), rd l1 ((rd_T67 l0 x25_2).f2), 0, (rd_T67 l0 x25_2).f4⟩ : S67)]) l0 (l0.length : Int) (wrap64 (x25_2 + 1))) else (none))) else (none)) else (none)) else (if t878 = true then (if 0 ≤ ((rd_T67 l0 x25_2).f3) then (if ((rd_T67 l0 x25_2).f3) < (l1.length : Int) then (if x6_2.length < 2932031007402 then (spec_RenameCode.l0 k2 l1 (x6_2 ++ [(⟨(rd_T67 l0 x25_2).f0, rd l1 ((rd_T67 l0 x25_2).f1), 0, rd l1 ((rd_T67 l0 x25_2).f3), (rd_T67 l0 x25_2).f4⟩ : S67)]) l0 (l0.length : Int) (wrap64 (x25_2 + 1))) else (none)) else (none)) else (none)) else (if x6_2.length < 2932031007402 then (spec_RenameCode.l0 k2 l1 (x6_2 ++ [(⟨(rd_T67 l0 x25_2).f0, rd l1 ((rd_T67 l0 x25_2).f1), 0, 0, (rd_T67 l0 x25_2).f4⟩ : S67)]) l0 (l0.length : Int) (wrap64 (x25_2 + 1))) else (none)))) else (none)) else (none)) = some (r1, r2) := H
         have A13 := zK A130
         clear A130
         by_cases c14 : 0 ≤ ((rd_T67 l0 x25_2).f1)
         ·rw [if_pos c14] at H
          have c14b0 : decide (0 ≤ ((rd_T67 l0 x25_2).f1)) = true := decide_eq_true c14
          clear c14
          by_cases c15 : ((rd_T67 l0 x25_2).f1) < (l1.length : Int)
          ·rw [if_pos c15] at H
           have c15b0 : decide (((rd_T67 l0 x25_2).f1) < (l1.length : Int)) = true := decide_eq_true c15
           clear c15
           by_cases c16 : t877 = true
           ·subst c16
            rw [if_pos rfl] at H
            by_cases c17 : 0 ≤ ((rd_T67 l0 x25_2).f2)
            ·rw [if_pos c17] at H
             have c17b0 : decide (0 ≤ ((rd_T67 l0 x25_2).f2)) = true := decide_eq_true c17
             clear c17
             by_cases c18 : ((rd_T67 l0 x25_2).f2) < (l1.length : Int)
             ·rw [if_pos c18] at H
              have c18b0 : decide (((rd_T67 l0 x25_2).f2) < (l1.length : Int)) = true := decide_eq_true c18
              clear c18
              by_cases c19 : t878 = true
              ·subst c19
               rw [if_pos rfl] at H
               by_cases c20 : 0 ≤ ((rd_T67 l0 x25_2).f3)
               ·rw [if_pos c20] at H
                have c20b0 : decide (0 ≤ ((rd_T67 l0 x25_2).f3)) = true := decide_eq_true c20
                clear c20
                by_cases c21 : ((rd_T67 l0 x25_2).f3) < (l1.length : Int)
                ·rw [if_pos c21] at H
                 have c21b0 : decide (((rd_T67 l0 x25_2).f3) < (l1.length : Int)) = true := decide_eq_true c21
                 clear c21
                 by_cases c22 : x6_2.length < 2932031007402
                 ·rw [if_pos c22] at H
                  have LMc22 := zK c22
                  clear c22
                  obtain ⟨y885, hy885⟩ : ∃ y_ : List (S67), y_ = (x6_2 ++ [(⟨(rd_T67 l0 x25_2).f0, rd l1 ((rd_T67 l0 x25_2).f1), rd l1 ((rd_T67 l0 x25_2).f2), rd l1 ((rd_T67 l0 x25_2).f3), (rd_T67 l0 x25_2).f4⟩ : S67)]) := ⟨_, rfl⟩
                  replace H : (spec_RenameCode.l0 k2 l1 y885 l0 (l0.length : Int) (wrap64 (x25_2 + 1))) = some (r1, r2) := by first | (rw [hy885]; with_reducible exact H) | (have H2_ := (Option.bind_some _ _).symm.trans H; rw [hy885]; with_reducible exact H2_) | (have H2_ := (Option.bind_some _ _).symm.trans H; with_reducible exact H2_) | with_reducible exact H | (rw [hy885]; exact H) | exact H
                  have Ny885 := zK hy885
                  clear hy885
                  have H' := zK H
                  clear H
                  have p874 : 0 ≤ (x25_2 : Int) := zo
                  have q874 : x25_2 < (l0.length : Int) := zo
                  obtain ⟨ad874, e874, hx874_0, hx874_1, hx874_2, hx874_3, hx874_4⟩ := at_T67 HR0.out x25_2 p874 q874
                  cases e874
                  replace hx874_0 := zt HB.out hx874_0
                  replace hx874_1 := zt HB.out hx874_1
                  replace hx874_2 := zt HB.out hx874_2
                  replace hx874_3 := zt HB.out hx874_3
                  replace hx874_4 := zt HB.out hx874_4
                  replace p874 := eq_true p874
                  replace q874 := eq_true q874
                  try go_wp2_with (first | ((with_reducible refine gate_dst (N := 8) rfl ?_); refine box_event ?hg (N := 8) ?hd (cs := #[.string (⟨#[]⟩ : ByteArray), .int .i64 0, .int .i64 0, .int .i64 0, .int .i64 0]) (t := 67) ?hr ?_; (case hd => rfl); (case hg => rfl); (case hr => first | (go_simp; done) | (go_simp; rfl)); intro gb875 hg w23 hbox hb; have n0_ := zK (Kd.R_below (Kd.R_elderB (by (with_reducible repeat (first | apply Kd.R_alloc | apply Kd.R_drewN | apply Kd.R_drew)); exact HO_6.out) gb875 (Nat.le_of_eq hg.symm)) hb); have n1_ := zK (zL (by repeat (first | (with_reducible first | exact HB.out | apply zA | apply zB | apply zC) | exact HB.out)) hb); have n2_ := zK (hbox); have n3_ := zK ((by rw [hg]; exact (zN (by repeat (first | (with_reducible first | exact HB.out | apply zA | apply zB | apply zC) | exact HB.out))) : w.heap.size ≤ gb875)); have n4_ := n3_; clear HO_6; clear HB; have HO_6 := n0_; have HB := n1_; have BK875 := n2_; have GW875 := n3_; have GE875 := n4_; clear n0_ n1_ n2_ n3_ n4_; clear hb hbox hg; have hcz24_0 : w23.cell? ⟨gb875, 0, none⟩ = some (.string (⟨#[]⟩ : ByteArray)) := (zI BK875.out 0).trans rfl; have hcz24_1 : w23.cell? ⟨gb875, 1, none⟩ = some (.int .i64 0) := (zI BK875.out 1).trans rfl; have hcz24_2 : w23.cell? ⟨gb875, 2, none⟩ = some (.int .i64 0) := (zI BK875.out 2).trans rfl; have hcz24_3 : w23.cell? ⟨gb875, 3, none⟩ = some (.int .i64 0) := (zI BK875.out 3).trans rfl; have hcz24_4 : w23.cell? ⟨gb875, 4, none⟩ = some (.int .i64 0) := (zI BK875.out 4).trans rfl; have hfz24_0 := zH BK875.out 0; have hfz24_1 := zH BK875.out 1; have hfz24_2 := zH BK875.out 2; have hfz24_3 := zH BK875.out 3; have hfz24_4 := zH BK875.out 4) | ((with_reducible refine gate_callee (f := 92) rfl ?_); refine goesL_ (some 32) rfl rfl Try.func92 (by kernel_rfl) rfl #[.string ((rd_T67 l0 x25_2).f0)] rfl (by (try simp only [z6, z7, z8]); first | done | rfl | (simp only [z4, z5]; rfl)) ?_; (with_reducible refine (spec_cdShape.calls k2 ((rd_T67 l0 x25_2).f0) t876 true true t879 t880 _ A13.out).mono ?_); rintro e w' ⟨rfl, ⟨nd, rfl⟩⟩; refine ⟨_, rfl, ?_⟩))
                  have n0_ : Aside0 (Kd.R k67 67 (((((w23.setCell ⟨gb875, 0, none⟩ (.string ((rd_T67 l0 x25_2).f0))).setCell ⟨gb875, 1, none⟩ (.int .i64 ((rd_T67 l0 x25_2).f1))).setCell ⟨gb875, 2, none⟩ (.int .i64 ((rd_T67 l0 x25_2).f2))).setCell ⟨gb875, 3, none⟩ (.int .i64 ((rd_T67 l0 x25_2).f3))).setCell ⟨gb875, 4, none⟩ (.int .i64 ((rd_T67 l0 x25_2).f4))) w.heap.size (fun k_ => k_ ≠ gb875) u6 x6_2) := ⟨by (with_reducible repeat (first | apply Kd.R_alloc | apply Kd.R_drewN | apply Kd.R_drew)); exact Kd.R_mono (Kd.R_far (p := ⟨gb875, 4, none⟩) (Kd.R_far (p := ⟨gb875, 3, none⟩) (Kd.R_far (p := ⟨gb875, 2, none⟩) (Kd.R_far (p := ⟨gb875, 1, none⟩) (Kd.R_far (p := ⟨gb875, 0, none⟩) (Kd.R_mono HO_6.out (fun k_ hk => (⟨hk, hk.2⟩ : _ ∧ k_ ≠ gb875))) (fun _ hk => hk.2) (.string ((rd_T67 l0 x25_2).f0))) (fun _ hk => hk.2) (.int .i64 ((rd_T67 l0 x25_2).f1))) (fun _ hk => hk.2) (.int .i64 ((rd_T67 l0 x25_2).f2))) (fun _ hk => hk.2) (.int .i64 ((rd_T67 l0 x25_2).f3))) (fun _ hk => hk.2) (.int .i64 ((rd_T67 l0 x25_2).f4))) (fun _ hk => hk.1.2)⟩
                  have n1_ : Aside0 ((((((w23.setCell ⟨gb875, 0, none⟩ (.string ((rd_T67 l0 x25_2).f0))).setCell ⟨gb875, 1, none⟩ (.int .i64 ((rd_T67 l0 x25_2).f1))).setCell ⟨gb875, 2, none⟩ (.int .i64 ((rd_T67 l0 x25_2).f2))).setCell ⟨gb875, 3, none⟩ (.int .i64 ((rd_T67 l0 x25_2).f3))).setCell ⟨gb875, 4, none⟩ (.int .i64 ((rd_T67 l0 x25_2).f4))).heap[gb875]? = some (.cells #[.string ((rd_T67 l0 x25_2).f0), .int .i64 ((rd_T67 l0 x25_2).f1), .int .i64 ((rd_T67 l0 x25_2).f2), .int .i64 ((rd_T67 l0 x25_2).f3), .int .i64 ((rd_T67 l0 x25_2).f4)] 67 (0, 0))) := ⟨by (with_reducible repeat (first | refine zE ?_ _ | refine zF ?_ | refine zG ?_ _)); refine blk_put (cs := #[.string ((rd_T67 l0 x25_2).f0), .int .i64 ((rd_T67 l0 x25_2).f1), .int .i64 ((rd_T67 l0 x25_2).f2), .int .i64 ((rd_T67 l0 x25_2).f3), .int .i64 0]) ?_ 4 _ rfl; (with_reducible repeat (first | refine zE ?_ _ | refine zF ?_ | refine zG ?_ _)); refine blk_put (cs := #[.string ((rd_T67 l0 x25_2).f0), .int .i64 ((rd_T67 l0 x25_2).f1), .int .i64 ((rd_T67 l0 x25_2).f2), .int .i64 0, .int .i64 0]) ?_ 3 _ rfl; (with_reducible repeat (first | refine zE ?_ _ | refine zF ?_ | refine zG ?_ _)); refine blk_put (cs := #[.string ((rd_T67 l0 x25_2).f0), .int .i64 ((rd_T67 l0 x25_2).f1), .int .i64 0, .int .i64 0, .int .i64 0]) ?_ 2 _ rfl; (with_reducible repeat (first | refine zE ?_ _ | refine zF ?_ | refine zG ?_ _)); refine blk_put (cs := #[.string ((rd_T67 l0 x25_2).f0), .int .i64 0, .int .i64 0, .int .i64 0, .int .i64 0]) ?_ 1 _ rfl; (with_reducible repeat (first | refine zE ?_ _ | refine zF ?_ | refine zG ?_ _)); refine blk_put (cs := #[.string (⟨#[]⟩ : ByteArray), .int .i64 0, .int .i64 0, .int .i64 0, .int .i64 0]) ?_ 0 _ rfl; (with_reducible repeat (first | refine zE ?_ _ | refine zF ?_ | refine zG ?_ _)); exact BK875.out⟩
                  have n2_ : Aside0 (Below w.heap.size w (((((w23.setCell ⟨gb875, 0, none⟩ (.string ((rd_T67 l0 x25_2).f0))).setCell ⟨gb875, 1, none⟩ (.int .i64 ((rd_T67 l0 x25_2).f1))).setCell ⟨gb875, 2, none⟩ (.int .i64 ((rd_T67 l0 x25_2).f2))).setCell ⟨gb875, 3, none⟩ (.int .i64 ((rd_T67 l0 x25_2).f3))).setCell ⟨gb875, 4, none⟩ (.int .i64 ((rd_T67 l0 x25_2).f4)))) := ⟨by repeat (first | (with_reducible first | exact HB.out | apply zA | apply zB | apply zC | refine zD ?_ GE875.out) | exact HB.out)⟩
                  (try clear HO_6)
                  (try clear BK875)
                  (try clear HB)
                  generalize (((((w23.setCell ⟨gb875, 0, none⟩ (.string ((rd_T67 l0 x25_2).f0))).setCell ⟨gb875, 1, none⟩ (.int .i64 ((rd_T67 l0 x25_2).f1))).setCell ⟨gb875, 2, none⟩ (.int .i64 ((rd_T67 l0 x25_2).f2))).setCell ⟨gb875, 3, none⟩ (.int .i64 ((rd_T67 l0 x25_2).f3))).setCell ⟨gb875, 4, none⟩ (.int .i64 ((rd_T67 l0 x25_2).f4))) = w25 at n0_ n1_ n2_ ⊢
                  have HO_6 := n0_
                  have BK875 := n1_
                  have HB := n2_
                  clear n0_ n1_ n2_
                  (try (rw [drewN_self w25]; generalize hq_ : World.drewN w25 _ = w25; have n0_ : Aside0 (Kd.R k67 67 w25 w.heap.size (fun k_ => k_ ≠ gb875) u6 x6_2) := ⟨by rw [← hq_]; exact (by (with_reducible repeat (first | apply Kd.R_alloc | apply Kd.R_drewN | apply Kd.R_drew)); exact HO_6.out)⟩; have n1_ : Aside0 (w25.heap[gb875]? = some (.cells #[.string ((rd_T67 l0 x25_2).f0), .int .i64 ((rd_T67 l0 x25_2).f1), .int .i64 ((rd_T67 l0 x25_2).f2), .int .i64 ((rd_T67 l0 x25_2).f3), .int .i64 ((rd_T67 l0 x25_2).f4)] 67 (0, 0))) := ⟨by rw [← hq_]; exact (by (with_reducible repeat (first | refine zE ?_ _ | refine zF ?_ | refine zG ?_ _)); exact BK875.out)⟩; have n2_ : Aside0 (Below w.heap.size w w25) := ⟨by rw [← hq_]; exact (by repeat (first | (with_reducible first | exact HB.out | apply zA | apply zB | apply zC | refine zD ?_ GE875.out) | exact HB.out))⟩; clear HO_6 BK875 HB hq_; have HO_6 := n0_; have BK875 := n1_; have HB := n2_; clear n0_ n1_ n2_))
                  have n0_ := zK (Kd.R_drew HO_6.out)
                  have n1_ := zK (zF BK875.out)
                  have n2_ := zK (zC HB.out)
                  clear HO_6
                  clear BK875
                  clear HB
                  have HO_6 := n0_
                  have BK875 := n1_
                  have HB := n2_
                  clear n0_ n1_ n2_
                  have p881 : 0 ≤ (((rd_T67 l0 x25_2).f1) : Int) := zo
                  have q881 : ((rd_T67 l0 x25_2).f1) < (l1.length : Int) := zo
                  obtain ⟨ad881, e881, hx881_0⟩ := Kd.at_int HR1.out ((rd_T67 l0 x25_2).f1) p881 q881
                  have hw881_0 := hx881_0
                  cases e881
                  replace hx881_0 := zt HB.out hx881_0
                  replace p881 := eq_true p881
                  replace q881 := eq_true q881
                  refine start_ (n := 12) (S := fun w' => w'.cell? ⟨gb875, 0, none⟩ = some (.string ((rd_T67 l0 x25_2).f0)) ∧ w'.cell? ⟨gb875, 1, none⟩ = some (.int .i64 ((rd_T67 l0 x25_2).f1)) ∧ w'.cell? ⟨gb875, 2, none⟩ = some (.int .i64 ((rd_T67 l0 x25_2).f2)) ∧ w'.cell? ⟨gb875, 3, none⟩ = some (.int .i64 ((rd_T67 l0 x25_2).f3)) ∧ w'.cell? ⟨gb875, 4, none⟩ = some (.int .i64 ((rd_T67 l0 x25_2).f4)) ∧ w'.cell? (ad881.add (((rd_T67 l0 x25_2).f1)).toNat) = some (.int .i64 (rd l1 ((rd_T67 l0 x25_2).f1)))) (ds := []) #[false, false, false, false, false, false, false, false, false, false, false, false] (by kernel_rfl) rfl rfl ⟨(zI BK875.out 0).trans rfl, (zI BK875.out 1).trans rfl, (zI BK875.out 2).trans rfl, (zI BK875.out 3).trans rfl, (zI BK875.out 4).trans rfl, (zt HB.out hw881_0)⟩ (fun hHeld => ?_); refine with_tabW spec_RenameCode.tab8 spec_RenameCode.bits8 (fun HT_ HW_ => ?_)
                  generalize w25.drew = w26 at HO_6 BK875 HB hx881_0 hHeld ⊢
                  refine pure_ (i := 0) (N := some 38) (v := ?_) (a' := ?_) #[true, false, false, false, false, false, false, false, false, false, false, false] rfl rfl (any_of HT_.out (by kernel_rfl)) (fun _ _ _ h => h) (Or.inl ⟨by rfl, ?_⟩) ?_ ?_
                  rotate_left
                  ·intro w'
                   go_simp
                   with_reducible rfl
                  rotate_left
                  ·simp only [Act.put, z1, z2, z3, i64_w, i32_w]
                   rfl
                  refine pure_ (i := 2) (N := some 40) (v := ?_) (a' := ?_) #[true, false, true, false, false, false, false, false, false, false, false, false] rfl rfl (any_of HT_.out (by kernel_rfl)) (fun _ _ _ h => h) (Or.inl ⟨by rfl, ?_⟩) ?_ ?_
                  rotate_left
                  ·intro w'
                   go_simp
                   with_reducible rfl
                  rotate_left
                  ·simp only [Act.put, z1, z2, z3, i64_w, i32_w]
                   rfl
                  refine pure_ (i := 3) (N := some 41) (v := ?_) (a' := ?_) #[true, false, true, true, false, false, false, false, false, false, false, false] rfl rfl (any_of HT_.out (by kernel_rfl)) (fun _ _ _ h => h) (Or.inl ⟨by rfl, ?_⟩) ?_ ?_
                  rotate_left
                  ·intro w'
                   go_simp
                   with_reducible rfl
                  rotate_left
                  ·simp only [Act.put, z1, z2, z3, i64_w, i32_w]
                   rfl
                  refine pure_ (i := 7) (N := some 45) (v := ?_) (a' := ?_) #[true, false, true, true, false, false, false, true, false, false, false, false] rfl rfl (any_of HT_.out (by kernel_rfl)) (fun _ _ _ h => h) (Or.inl ⟨by rfl, ?_⟩) ?_ ?_
                  rotate_left
                  ·intro w'
                   go_simp
                   with_reducible rfl
                  rotate_left
                  ·simp only [Act.put, z1, z2, z3, i64_w, i32_w]
                   rfl
                  refine take_ (i := 1) (N := some 39) (v := ?_) (a' := ?_) #[true, true, true, true, false, false, false, true, false, false, false, false] rfl rfl (take_ofW HT_.out HW_.out (by kernel_rfl)) (fun _ _ _ h => h) (Or.inl ⟨by rfl, ?_⟩) hHeld ?_ ?_
                  rotate_left
                  ·rintro w' ⟨s0, s1, s2, s3, s4, s5⟩
                   go_simp
                   with_reducible rfl
                  rotate_left
                  ·simp only [Act.put, z1, z2, z3, i64_w, i32_w]
                   rfl
                  refine take_ (i := 4) (N := some 42) (v := ?_) (a' := ?_) #[true, true, true, true, true, false, false, true, false, false, false, false] rfl rfl (take_ofW HT_.out HW_.out (by kernel_rfl)) (fun _ _ _ h => h) (Or.inl ⟨by rfl, ?_⟩) hHeld ?_ ?_
                  rotate_left
                  ·rintro w' ⟨s0, s1, s2, s3, s4, s5⟩
                   go_simp
                   with_reducible rfl
                  rotate_left
                  ·simp only [Act.put, z1, z2, z3, i64_w, i32_w]
                   rfl
                  refine pure_ (i := 5) (N := some 43) (v := ?_) (a' := ?_) #[true, true, true, true, true, true, false, true, false, false, false, false] rfl rfl (any_of HT_.out (by kernel_rfl)) (fun _ _ _ h => h) (Or.inl ⟨by rfl, ?_⟩) ?_ ?_
                  rotate_left
                  ·intro w'
                   go_simp
                   with_reducible rfl
                  rotate_left
                  ·simp only [Act.put, z1, z2, z3, i64_w, i32_w]
                   rfl
                  refine take_ (i := 6) (N := some 44) (v := ?_) (a' := ?_) #[true, true, true, true, true, true, true, true, false, false, false, false] rfl rfl (take_ofW HT_.out HW_.out (by kernel_rfl)) (fun _ _ _ h => h) (Or.inl ⟨by rfl, ?_⟩) hHeld ?_ ?_
                  rotate_left
                  ·rintro w' ⟨s0, s1, s2, s3, s4, s5⟩
                   go_simp
                   with_reducible rfl
                  rotate_left
                  ·simp only [Act.put, z1, z2, z3, i64_w, i32_w]
                   rfl
                  refine take_ (i := 8) (N := some 46) (v := ?_) (a' := ?_) #[true, true, true, true, true, true, true, true, true, false, false, false] rfl rfl (take_ofW HT_.out HW_.out (by kernel_rfl)) (fun _ _ _ h => h) (Or.inl ⟨by rfl, ?_⟩) hHeld ?_ ?_
                  rotate_left
                  ·rintro w' ⟨s0, s1, s2, s3, s4, s5⟩
                   go_simp
                   with_reducible rfl
                  rotate_left
                  ·simp only [Act.put, z1, z2, z3, i64_w, i32_w]
                   rfl
                  refine pure_ (i := 9) (N := some 47) (v := ?_) (a' := ?_) #[true, true, true, true, true, true, true, true, true, true, false, false] rfl rfl (any_of HT_.out (by kernel_rfl)) (fun _ _ _ h => h) (Or.inl ⟨by rfl, ?_⟩) ?_ ?_
                  rotate_left
                  ·intro w'
                   go_simp
                   with_reducible rfl
                  rotate_left
                  ·simp only [Act.put, z1, z2, z3, i64_w, i32_w]
                   rfl
                  refine one_ (i := 10) (N := some 14) #[true, true, true, true, true, true, true, true, true, true, true, false] rfl rfl (one_of HT_.out (by kernel_rfl)) (by decide) (fun K hK => ?_)
                  refine box_step ?hg (N := 14) ?hd (cs := #[.string (⟨#[]⟩ : ByteArray), .int .i64 0, .int .i64 0, .int .i64 0, .int .i64 0]) (t := 67) ?hr ?_; (case hd => rfl); (case hg => rfl); (case hr => first | (go_simp; done) | (go_simp; rfl))
                  intro gb882 hg w27 hbox hb
                  have n0_ := zK (Kd.R_below (Kd.R_elderB (by (with_reducible repeat (first | apply Kd.R_alloc | apply Kd.R_drewN | apply Kd.R_drew)); exact HO_6.out) gb882 (Nat.le_of_eq hg.symm)) hb)
                  have n1_ := zK (zM (g := gb875) (o := .cells #[.string ((rd_T67 l0 x25_2).f0), .int .i64 ((rd_T67 l0 x25_2).f1), .int .i64 ((rd_T67 l0 x25_2).f2), .int .i64 ((rd_T67 l0 x25_2).f3), .int .i64 ((rd_T67 l0 x25_2).f4)] 67 (0, 0)) (by (with_reducible repeat (first | refine zE ?_ _ | refine zF ?_ | refine zG ?_ _)); exact BK875.out) hb)
                  have n2_ := zK (zL (by repeat (first | (with_reducible first | exact HB.out | apply zA | apply zB | apply zC | refine zD ?_ GE875.out) | exact HB.out)) hb)
                  have n3_ := zK (hbox)
                  have n4_ := zK ((by rw [hg]; exact (zN (by repeat (first | (with_reducible first | exact HB.out | apply zA | apply zB | apply zC | refine zD ?_ GE875.out) | exact HB.out))) : w.heap.size ≤ gb882))
                  have n5_ := zK ((by rw [hg]; exact (zN (by repeat (first | (with_reducible first | exact HB.out | apply zA | apply zB | apply zC | refine zD ?_ GE875.out) | exact HB.out))) : w.heap.size ≤ gb882))
                  have n6_ := zK ((by rw [hg]; exact Nat.ne_of_lt (blk_lt (g := gb875) (o := .cells #[.string ((rd_T67 l0 x25_2).f0), .int .i64 ((rd_T67 l0 x25_2).f1), .int .i64 ((rd_T67 l0 x25_2).f2), .int .i64 ((rd_T67 l0 x25_2).f3), .int .i64 ((rd_T67 l0 x25_2).f4)] 67 (0, 0)) (by (with_reducible repeat (first | refine zE ?_ _ | refine zF ?_ | refine zG ?_ _)); exact BK875.out)) : gb875 ≠ gb882))
                  have n7_ := zK ((by rw [hg]; exact Nat.ne_of_gt (blk_lt (g := gb875) (o := .cells #[.string ((rd_T67 l0 x25_2).f0), .int .i64 ((rd_T67 l0 x25_2).f1), .int .i64 ((rd_T67 l0 x25_2).f2), .int .i64 ((rd_T67 l0 x25_2).f3), .int .i64 ((rd_T67 l0 x25_2).f4)] 67 (0, 0)) (by (with_reducible repeat (first | refine zE ?_ _ | refine zF ?_ | refine zG ?_ _)); exact BK875.out)) : gb882 ≠ gb875))
                  clear HO_6
                  clear BK875
                  clear HB
                  have HO_6 := n0_
                  have BK875 := n1_
                  have HB := n2_
                  have BK882 := n3_
                  have GW882 := n4_
                  have GE882 := n5_
                  have NB875_882 := n6_
                  have NB882_875 := n7_
                  clear n0_ n1_ n2_ n3_ n4_ n5_ n6_ n7_
                  clear hb hbox hg
                  refine hK.out _ _ ⟨(zI BK875.out 0).trans rfl, (zI BK875.out 1).trans rfl, (zI BK875.out 2).trans rfl, (zI BK875.out 3).trans rfl, (zI BK875.out 4).trans rfl, (zt HB.out hw881_0 :)⟩ (fun hHeld => ?_)
                  clear hK K
                  refine norm_ (a' := ?_) ?_ ?_
                  rotate_left
                  ·show Act.put _ (some 14) _ = _
                   simp only [Act.put, z1, z2, z3, i64_w, i32_w]
                   rfl
                  refine one_ (i := 11) (N := none) #[true, true, true, true, true, true, true, true, true, true, true, true] rfl rfl (one_of HT_.out (by kernel_rfl)) (by decide) (fun K hK => ?_)
                  have hs28 : w27.cell? ⟨gb882, 0, none⟩ = some (.string (⟨#[]⟩ : ByteArray)) := (zI BK882.out 0).trans rfl
                  have hfs28 := zH BK882.out 0
                  have hns28_0 := NB875_882.out
                  have hms28_0 := NB882_875.out
                  have hs29 : w27.cell? ⟨gb882, 1, none⟩ = some (.int .i64 0) := (zI BK882.out 1).trans rfl
                  have hfs29 := zH BK882.out 1
                  have hns29_0 := NB875_882.out
                  have hms29_0 := NB882_875.out
                  have hs30 : w27.cell? ⟨gb882, 2, none⟩ = some (.int .i64 0) := (zI BK882.out 2).trans rfl
                  have hfs30 := zH BK882.out 2
                  have hns30_0 := NB875_882.out
                  have hms30_0 := NB882_875.out
                  have hs31 : w27.cell? ⟨gb882, 3, none⟩ = some (.int .i64 0) := (zI BK882.out 3).trans rfl
                  have hfs31 := zH BK882.out 3
                  have hns31_0 := NB875_882.out
                  have hms31_0 := NB882_875.out
                  have hs32 : w27.cell? ⟨gb882, 4, none⟩ = some (.int .i64 0) := (zI BK882.out 4).trans rfl
                  have hfs32 := zH BK882.out 4
                  have hns32_0 := NB875_882.out
                  have hms32_0 := NB882_875.out
                  refine skip_ (w1 := ?_) (by rfl) rfl ?_ ?_
                  rotate_left
                  ·go_simp
                   rfl
                  refine hK.out _ _ ⟨((cell_far (p := ⟨gb882, _, none⟩) NB875_882.out _).trans (((cell_far (p := ⟨gb882, _, none⟩) NB875_882.out _).trans (((cell_far (p := ⟨gb882, _, none⟩) NB875_882.out _).trans (((cell_far (p := ⟨gb882, _, none⟩) NB875_882.out _).trans (((cell_far (p := ⟨gb882, _, none⟩) NB875_882.out _).trans (hHeld.1)))))))))), ((cell_far (p := ⟨gb882, _, none⟩) NB875_882.out _).trans (((cell_far (p := ⟨gb882, _, none⟩) NB875_882.out _).trans (((cell_far (p := ⟨gb882, _, none⟩) NB875_882.out _).trans (((cell_far (p := ⟨gb882, _, none⟩) NB875_882.out _).trans (((cell_far (p := ⟨gb882, _, none⟩) NB875_882.out _).trans (hHeld.2.1)))))))))), ((cell_far (p := ⟨gb882, _, none⟩) NB875_882.out _).trans (((cell_far (p := ⟨gb882, _, none⟩) NB875_882.out _).trans (((cell_far (p := ⟨gb882, _, none⟩) NB875_882.out _).trans (((cell_far (p := ⟨gb882, _, none⟩) NB875_882.out _).trans (((cell_far (p := ⟨gb882, _, none⟩) NB875_882.out _).trans (hHeld.2.2.1)))))))))), ((cell_far (p := ⟨gb882, _, none⟩) NB875_882.out _).trans (((cell_far (p := ⟨gb882, _, none⟩) NB875_882.out _).trans (((cell_far (p := ⟨gb882, _, none⟩) NB875_882.out _).trans (((cell_far (p := ⟨gb882, _, none⟩) NB875_882.out _).trans (((cell_far (p := ⟨gb882, _, none⟩) NB875_882.out _).trans (hHeld.2.2.2.1)))))))))), ((cell_far (p := ⟨gb882, _, none⟩) NB875_882.out _).trans (((cell_far (p := ⟨gb882, _, none⟩) NB875_882.out _).trans (((cell_far (p := ⟨gb882, _, none⟩) NB875_882.out _).trans (((cell_far (p := ⟨gb882, _, none⟩) NB875_882.out _).trans (((cell_far (p := ⟨gb882, _, none⟩) NB875_882.out _).trans (hHeld.2.2.2.2.1)))))))))), ((cell_far (p := ⟨gb882, _, none⟩) (by first | exact Nat.ne_of_lt (Nat.lt_of_lt_of_le (by have := zW _ _ hw881_0; first | rwa [add_block] at this | exact this) GW882.out) | (rw [add_block]; exact Nat.ne_of_lt (Nat.lt_of_lt_of_le (by have := zW _ _ hw881_0; first | rwa [add_block] at this | exact this) GW882.out)) | (show (Addr.add _ _).block ≠ _; rw [add_block]; exact Nat.ne_of_lt (Nat.lt_of_lt_of_le (by have := zW _ _ hw881_0; first | rwa [add_block] at this | exact this) GW882.out)) | (dsimp only; exact Nat.ne_of_lt (Nat.lt_of_lt_of_le (by have := zW _ _ hw881_0; first | rwa [add_block] at this | exact this) GW882.out))) _).trans (((cell_far (p := ⟨gb882, _, none⟩) (by first | exact Nat.ne_of_lt (Nat.lt_of_lt_of_le (by have := zW _ _ hw881_0; first | rwa [add_block] at this | exact this) GW882.out) | (rw [add_block]; exact Nat.ne_of_lt (Nat.lt_of_lt_of_le (by have := zW _ _ hw881_0; first | rwa [add_block] at this | exact this) GW882.out)) | (show (Addr.add _ _).block ≠ _; rw [add_block]; exact Nat.ne_of_lt (Nat.lt_of_lt_of_le (by have := zW _ _ hw881_0; first | rwa [add_block] at this | exact this) GW882.out)) | (dsimp only; exact Nat.ne_of_lt (Nat.lt_of_lt_of_le (by have := zW _ _ hw881_0; first | rwa [add_block] at this | exact this) GW882.out))) _).trans (((cell_far (p := ⟨gb882, _, none⟩) (by first | exact Nat.ne_of_lt (Nat.lt_of_lt_of_le (by have := zW _ _ hw881_0; first | rwa [add_block] at this | exact this) GW882.out) | (rw [add_block]; exact Nat.ne_of_lt (Nat.lt_of_lt_of_le (by have := zW _ _ hw881_0; first | rwa [add_block] at this | exact this) GW882.out)) | (show (Addr.add _ _).block ≠ _; rw [add_block]; exact Nat.ne_of_lt (Nat.lt_of_lt_of_le (by have := zW _ _ hw881_0; first | rwa [add_block] at this | exact this) GW882.out)) | (dsimp only; exact Nat.ne_of_lt (Nat.lt_of_lt_of_le (by have := zW _ _ hw881_0; first | rwa [add_block] at this | exact this) GW882.out))) _).trans (((cell_far (p := ⟨gb882, _, none⟩) (by first | exact Nat.ne_of_lt (Nat.lt_of_lt_of_le (by have := zW _ _ hw881_0; first | rwa [add_block] at this | exact this) GW882.out) | (rw [add_block]; exact Nat.ne_of_lt (Nat.lt_of_lt_of_le (by have := zW _ _ hw881_0; first | rwa [add_block] at this | exact this) GW882.out)) | (show (Addr.add _ _).block ≠ _; rw [add_block]; exact Nat.ne_of_lt (Nat.lt_of_lt_of_le (by have := zW _ _ hw881_0; first | rwa [add_block] at this | exact this) GW882.out)) | (dsimp only; exact Nat.ne_of_lt (Nat.lt_of_lt_of_le (by have := zW _ _ hw881_0; first | rwa [add_block] at this | exact this) GW882.out))) _).trans (((cell_far (p := ⟨gb882, _, none⟩) (by first | exact Nat.ne_of_lt (Nat.lt_of_lt_of_le (by have := zW _ _ hw881_0; first | rwa [add_block] at this | exact this) GW882.out) | (rw [add_block]; exact Nat.ne_of_lt (Nat.lt_of_lt_of_le (by have := zW _ _ hw881_0; first | rwa [add_block] at this | exact this) GW882.out)) | (show (Addr.add _ _).block ≠ _; rw [add_block]; exact Nat.ne_of_lt (Nat.lt_of_lt_of_le (by have := zW _ _ hw881_0; first | rwa [add_block] at this | exact this) GW882.out)) | (dsimp only; exact Nat.ne_of_lt (Nat.lt_of_lt_of_le (by have := zW _ _ hw881_0; first | rwa [add_block] at this | exact this) GW882.out))) _).trans (hHeld.2.2.2.2.2))))))))))⟩ (fun hHeld => ?_)
                  clear hK K
                  refine done_ (done_of HT_.out (by kernel_rfl)) ?_
                  have BKn : (((((w27.setCell ⟨gb882, 0, none⟩ (.string ((rd_T67 l0 x25_2).f0))).setCell ⟨gb882, 1, none⟩ (.int .i64 (rd l1 ((rd_T67 l0 x25_2).f1)))).setCell ⟨gb882, 2, none⟩ (.int .i64 0)).setCell ⟨gb882, 3, none⟩ (.int .i64 0)).setCell ⟨gb882, 4, none⟩ (.int .i64 ((rd_T67 l0 x25_2).f4))).heap[gb882]? = some (.cells #[.string ((rd_T67 l0 x25_2).f0), .int .i64 (rd l1 ((rd_T67 l0 x25_2).f1)), .int .i64 0, .int .i64 0, .int .i64 ((rd_T67 l0 x25_2).f4)] 67 (0, 0)) := by refine blk_put (cs := #[.string ((rd_T67 l0 x25_2).f0), .int .i64 (rd l1 ((rd_T67 l0 x25_2).f1)), .int .i64 0, .int .i64 0, .int .i64 0]) ?_ 4 _ rfl; refine blk_put (cs := #[.string ((rd_T67 l0 x25_2).f0), .int .i64 (rd l1 ((rd_T67 l0 x25_2).f1)), .int .i64 0, .int .i64 0, .int .i64 0]) ?_ 3 _ rfl; refine blk_put (cs := #[.string ((rd_T67 l0 x25_2).f0), .int .i64 (rd l1 ((rd_T67 l0 x25_2).f1)), .int .i64 0, .int .i64 0, .int .i64 0]) ?_ 2 _ rfl; refine blk_put (cs := #[.string ((rd_T67 l0 x25_2).f0), .int .i64 0, .int .i64 0, .int .i64 0, .int .i64 0]) ?_ 1 _ rfl; refine blk_put (cs := #[.string (⟨#[]⟩ : ByteArray), .int .i64 0, .int .i64 0, .int .i64 0, .int .i64 0]) ?_ 0 _ rfl; exact BK882.out
                  have BFn : (((((w27.setCell ⟨gb882, 0, none⟩ (.string ((rd_T67 l0 x25_2).f0))).setCell ⟨gb882, 1, none⟩ (.int .i64 (rd l1 ((rd_T67 l0 x25_2).f1)))).setCell ⟨gb882, 2, none⟩ (.int .i64 0)).setCell ⟨gb882, 3, none⟩ (.int .i64 0)).setCell ⟨gb882, 4, none⟩ (.int .i64 ((rd_T67 l0 x25_2).f4))).heap[gb875]? = some (.cells #[.string ((rd_T67 l0 x25_2).f0), .int .i64 ((rd_T67 l0 x25_2).f1), .int .i64 ((rd_T67 l0 x25_2).f2), .int .i64 ((rd_T67 l0 x25_2).f3), .int .i64 ((rd_T67 l0 x25_2).f4)] 67 (0, 0)) := by refine blk_far ?_ NB875_882.out _; refine blk_far ?_ NB875_882.out _; refine blk_far ?_ NB875_882.out _; refine blk_far ?_ NB875_882.out _; refine blk_far ?_ NB875_882.out _; exact BK875.out
                  have HBn : Below w.heap.size w (((((w27.setCell ⟨gb882, 0, none⟩ (.string ((rd_T67 l0 x25_2).f0))).setCell ⟨gb882, 1, none⟩ (.int .i64 (rd l1 ((rd_T67 l0 x25_2).f1)))).setCell ⟨gb882, 2, none⟩ (.int .i64 0)).setCell ⟨gb882, 3, none⟩ (.int .i64 0)).setCell ⟨gb882, 4, none⟩ (.int .i64 ((rd_T67 l0 x25_2).f4))) := by repeat (first | exact HB.out | refine zD ?_ GE882.out)
                  have HOn := Kd.R_mono (ok' := fun k_ => k_ ≠ gb875 ∧ k_ ≠ gb882) (Kd.R_far (p := ⟨gb882, 4, none⟩) (Kd.R_far (p := ⟨gb882, 3, none⟩) (Kd.R_far (p := ⟨gb882, 2, none⟩) (Kd.R_far (p := ⟨gb882, 1, none⟩) (Kd.R_far (p := ⟨gb882, 0, none⟩) (Kd.R_mono HO_6.out (fun k_ hk => (⟨hk, hk.2⟩ : _ ∧ k_ ≠ gb882))) (fun _ hk => hk.2) (.string ((rd_T67 l0 x25_2).f0))) (fun _ hk => hk.2) (.int .i64 (rd l1 ((rd_T67 l0 x25_2).f1)))) (fun _ hk => hk.2) (.int .i64 0)) (fun _ hk => hk.2) (.int .i64 0)) (fun _ hk => hk.2) (.int .i64 ((rd_T67 l0 x25_2).f4))) (fun _ hk => ⟨hk.1.1, hk.1.2⟩)
                  generalize (((((w27.setCell ⟨gb882, 0, none⟩ (.string ((rd_T67 l0 x25_2).f0))).setCell ⟨gb882, 1, none⟩ (.int .i64 (rd l1 ((rd_T67 l0 x25_2).f1)))).setCell ⟨gb882, 2, none⟩ (.int .i64 0)).setCell ⟨gb882, 3, none⟩ (.int .i64 0)).setCell ⟨gb882, 4, none⟩ (.int .i64 ((rd_T67 l0 x25_2).f4))) = wn at BKn BFn HBn HOn ⊢
                  try clear BK875
                  try clear BK882
                  try clear HB
                  try clear HO_6
                  try clear hfs28
                  try clear hfs29
                  try clear hfs30
                  try clear hfs31
                  try clear hfs32
                  try clear hms28_0
                  try clear hms29_0
                  try clear hms30_0
                  try clear hms31_0
                  try clear hms32_0
                  try clear hns28_0
                  try clear hns29_0
                  try clear hns30_0
                  try clear hns31_0
                  try clear hns32_0
                  try clear hs28
                  try clear hs29
                  try clear hs30
                  try clear hs31
                  try clear hs32
                  have BK882 := zK BKn
                  clear BKn
                  have BK875 := zK BFn
                  clear BFn
                  have HB := zK HBn
                  clear HBn
                  have HO_6 := zK HOn
                  clear HOn
                  have hnb33 := NB875_882.out
                  have hnc33 := NB882_875.out
                  have hcz34_0 : wn.cell? ⟨gb875, 0, none⟩ = some (.string ((rd_T67 l0 x25_2).f0)) := (zI BK875.out 0).trans rfl
                  have hcz34_1 : wn.cell? ⟨gb875, 1, none⟩ = some (.int .i64 ((rd_T67 l0 x25_2).f1)) := (zI BK875.out 1).trans rfl
                  have hcz34_2 : wn.cell? ⟨gb875, 2, none⟩ = some (.int .i64 ((rd_T67 l0 x25_2).f2)) := (zI BK875.out 2).trans rfl
                  have hcz34_3 : wn.cell? ⟨gb875, 3, none⟩ = some (.int .i64 ((rd_T67 l0 x25_2).f3)) := (zI BK875.out 3).trans rfl
                  have hcz34_4 : wn.cell? ⟨gb875, 4, none⟩ = some (.int .i64 ((rd_T67 l0 x25_2).f4)) := (zI BK875.out 4).trans rfl
                  have hfz34_0 := zH BK875.out 0
                  have hfz34_1 := zH BK875.out 1
                  have hfz34_2 := zH BK875.out 2
                  have hfz34_3 := zH BK875.out 3
                  have hfz34_4 := zH BK875.out 4
                  have p883 : 0 ≤ (((rd_T67 l0 x25_2).f2) : Int) := zo
                  have q883 : ((rd_T67 l0 x25_2).f2) < (l1.length : Int) := zo
                  obtain ⟨ad883, e883, hx883_0⟩ := Kd.at_int HR1.out ((rd_T67 l0 x25_2).f2) p883 q883
                  obtain rfl : ad881 = ad883 := (by injection e883)
                  replace hx883_0 := zt HB.out hx883_0
                  replace p883 := eq_true p883
                  replace q883 := eq_true q883
                  have hcz35_0 : wn.cell? ⟨gb882, 0, none⟩ = some (.string ((rd_T67 l0 x25_2).f0)) := (zI BK882.out 0).trans rfl
                  have hcz35_1 : wn.cell? ⟨gb882, 1, none⟩ = some (.int .i64 (rd l1 ((rd_T67 l0 x25_2).f1))) := (zI BK882.out 1).trans rfl
                  have hcz35_2 : wn.cell? ⟨gb882, 2, none⟩ = some (.int .i64 0) := (zI BK882.out 2).trans rfl
                  have hcz35_3 : wn.cell? ⟨gb882, 3, none⟩ = some (.int .i64 0) := (zI BK882.out 3).trans rfl
                  have hcz35_4 : wn.cell? ⟨gb882, 4, none⟩ = some (.int .i64 ((rd_T67 l0 x25_2).f4)) := (zI BK882.out 4).trans rfl
                  have hfz35_0 := zH BK882.out 0
                  have hfz35_1 := zH BK882.out 1
                  have hfz35_2 := zH BK882.out 2
                  have hfz35_3 := zH BK882.out 3
                  have hfz35_4 := zH BK882.out 4
                  have p884 : 0 ≤ (((rd_T67 l0 x25_2).f3) : Int) := zo
                  have q884 : ((rd_T67 l0 x25_2).f3) < (l1.length : Int) := zo
                  obtain ⟨ad884, e884, hx884_0⟩ := Kd.at_int HR1.out ((rd_T67 l0 x25_2).f3) p884 q884
                  obtain rfl : ad881 = ad884 := (by injection e884)
                  have hn884_5 : ad881.block ≠ gb882 := Nat.ne_of_lt (Nat.lt_of_lt_of_le (by have := zW _ _ hx884_0; first | rwa [add_block] at this | exact this) GW882.out)
                  replace hx884_0 := zt HB.out hx884_0
                  replace hx884_0 := (cell_far (p := ⟨gb882, 2, none⟩) (by first | (rw [add_block]; exact hn884_5) | (show (Addr.add _ _).block ≠ _; rw [add_block]; exact hn884_5) | exact hn884_5) (.int .i64 (rd l1 ((rd_T67 l0 x25_2).f2)))).trans hx884_0
                  clear hn884_5
                  replace p884 := eq_true p884
                  replace q884 := eq_true q884
                  try go_wp2_with (first | ((with_reducible refine gate_builtin (b := .append) (xs := #[.tmp 62, .tmp 64]) rfl ?_); at_builtin; refine Kd.R_append k67 (w0 := w) w.heap.size rfl (.tmp 62) (.tmp 64) 24 67 (.agg #[(.string ⟨#[]⟩), (.int .i64 0), (.int .i64 0), (.int .i64 0), (.int .i64 0)]) 48 rfl Try.underlying24 info67 rfl (by decide) (by omega) u6 x6_2 (⟨(rd_T67 l0 x25_2).f0, rd l1 ((rd_T67 l0 x25_2).f1), rd l1 ((rd_T67 l0 x25_2).f2), rd l1 ((rd_T67 l0 x25_2).f3), (rd_T67 l0 x25_2).f4⟩ : S67) [.string ((rd_T67 l0 x25_2).f0), .int .i64 (rd l1 ((rd_T67 l0 x25_2).f1)), .int .i64 (rd l1 ((rd_T67 l0 x25_2).f2)), .int .i64 (rd l1 ((rd_T67 l0 x25_2).f3)), .int .i64 ((rd_T67 l0 x25_2).f4)] (fun k_ => k_ ≠ gb875 ∧ k_ ≠ gb882) (fun _ => False) rfl (by first | (go_simp; done) | (go_simp; rfl)) ?aP (fun _ hk => hk.elim) ?aF ?aO ?aB ?aS ?aL ?_; (case aP => exact k67_mkM _ _ _ (⟨(rd_T67 l0 x25_2).f0, rd l1 ((rd_T67 l0 x25_2).f1), rd l1 ((rd_T67 l0 x25_2).f2), rd l1 ((rd_T67 l0 x25_2).f3), (rd_T67 l0 x25_2).f4⟩ : S67)); (case aB => exact (by repeat (first | (with_reducible first | exact HB.out | apply zA | apply zB | apply zC | refine zD ?_ GE875.out | refine zD ?_ GE882.out) | exact HB.out))); (case aF => exact (fun k_ hk => ⟨Kd.freshB (g := gb875) (o := .cells #[.string ((rd_T67 l0 x25_2).f0), .int .i64 ((rd_T67 l0 x25_2).f1), .int .i64 ((rd_T67 l0 x25_2).f2), .int .i64 ((rd_T67 l0 x25_2).f3), .int .i64 ((rd_T67 l0 x25_2).f4)] 67 (0, 0)) (by (with_reducible repeat (first | refine zE ?_ _ | refine zF ?_ | refine zG ?_ _)); refine blk_far ?_ NB875_882.out _; (with_reducible repeat (first | refine zE ?_ _ | refine zF ?_ | refine zG ?_ _)); refine blk_far ?_ NB875_882.out _; (with_reducible repeat (first | refine zE ?_ _ | refine zF ?_ | refine zG ?_ _)); exact BK875.out) k_ hk, Kd.freshB (g := gb882) (o := .cells #[.string ((rd_T67 l0 x25_2).f0), .int .i64 (rd l1 ((rd_T67 l0 x25_2).f1)), .int .i64 (rd l1 ((rd_T67 l0 x25_2).f2)), .int .i64 (rd l1 ((rd_T67 l0 x25_2).f3)), .int .i64 ((rd_T67 l0 x25_2).f4)] 67 (0, 0)) (by (with_reducible repeat (first | refine zE ?_ _ | refine zF ?_ | refine zG ?_ _)); refine blk_put (cs := #[.string ((rd_T67 l0 x25_2).f0), .int .i64 (rd l1 ((rd_T67 l0 x25_2).f1)), .int .i64 (rd l1 ((rd_T67 l0 x25_2).f2)), .int .i64 0, .int .i64 ((rd_T67 l0 x25_2).f4)]) ?_ 3 _ rfl; (with_reducible repeat (first | refine zE ?_ _ | refine zF ?_ | refine zG ?_ _)); refine blk_put (cs := #[.string ((rd_T67 l0 x25_2).f0), .int .i64 (rd l1 ((rd_T67 l0 x25_2).f1)), .int .i64 0, .int .i64 0, .int .i64 ((rd_T67 l0 x25_2).f4)]) ?_ 2 _ rfl; (with_reducible repeat (first | refine zE ?_ _ | refine zF ?_ | refine zG ?_ _)); exact BK882.out) k_ hk⟩)); (case aO => exact (by (with_reducible repeat (first | apply Kd.R_alloc | apply Kd.R_drewN | apply Kd.R_drew)); exact Kd.R_mono (Kd.R_far (p := ⟨gb882, 3, none⟩) (Kd.R_far (p := ⟨gb882, 2, none⟩) (Kd.R_mono HO_6.out (fun k_ hk => (⟨hk, hk.2⟩ : _ ∧ k_ ≠ gb882))) (fun _ hk => hk.2) (.int .i64 (rd l1 ((rd_T67 l0 x25_2).f2)))) (fun _ hk => hk.2) (.int .i64 (rd l1 ((rd_T67 l0 x25_2).f3)))) (fun _ hk => ⟨hk.1.1, hk.1.2⟩))); (case aS => exact (zN (by repeat (first | (with_reducible first | exact HB.out | apply zA | apply zB | apply zC | refine zD ?_ GE875.out | refine zD ?_ GE882.out) | exact HB.out)))); (case aL => have := LMc22.out; omega); intro v886 w36 ho hb hg hat; rw [← Ny885.out] at ho; have n0_ := zK (blk_grown (g := gb875) (o := .cells #[.string ((rd_T67 l0 x25_2).f0), .int .i64 ((rd_T67 l0 x25_2).f1), .int .i64 ((rd_T67 l0 x25_2).f2), .int .i64 ((rd_T67 l0 x25_2).f3), .int .i64 ((rd_T67 l0 x25_2).f4)] 67 (0, 0)) (by (with_reducible repeat (first | refine zE ?_ _ | refine zF ?_ | refine zG ?_ _)); refine blk_far ?_ NB875_882.out _; (with_reducible repeat (first | refine zE ?_ _ | refine zF ?_ | refine zG ?_ _)); refine blk_far ?_ NB875_882.out _; (with_reducible repeat (first | refine zE ?_ _ | refine zF ?_ | refine zG ?_ _)); exact BK875.out) hg (Kd.R_away HO_6.out (fun _ hk => hk.1))); have n1_ := zK (blk_grown (g := gb882) (o := .cells #[.string ((rd_T67 l0 x25_2).f0), .int .i64 (rd l1 ((rd_T67 l0 x25_2).f1)), .int .i64 (rd l1 ((rd_T67 l0 x25_2).f2)), .int .i64 (rd l1 ((rd_T67 l0 x25_2).f3)), .int .i64 ((rd_T67 l0 x25_2).f4)] 67 (0, 0)) (by (with_reducible repeat (first | refine zE ?_ _ | refine zF ?_ | refine zG ?_ _)); refine blk_put (cs := #[.string ((rd_T67 l0 x25_2).f0), .int .i64 (rd l1 ((rd_T67 l0 x25_2).f1)), .int .i64 (rd l1 ((rd_T67 l0 x25_2).f2)), .int .i64 0, .int .i64 ((rd_T67 l0 x25_2).f4)]) ?_ 3 _ rfl; (with_reducible repeat (first | refine zE ?_ _ | refine zF ?_ | refine zG ?_ _)); refine blk_put (cs := #[.string ((rd_T67 l0 x25_2).f0), .int .i64 (rd l1 ((rd_T67 l0 x25_2).f1)), .int .i64 0, .int .i64 0, .int .i64 ((rd_T67 l0 x25_2).f4)]) ?_ 2 _ rfl; (with_reducible repeat (first | refine zE ?_ _ | refine zF ?_ | refine zG ?_ _)); exact BK882.out) hg (Kd.R_away HO_6.out (fun _ hk => hk.2))); have n2_ := zK (hb); have n3_ := zK (ho); clear BK875; clear BK882; clear HB; clear HO_6; have BK875 := n0_; have BK882 := n1_; have HB := n2_; have HO887 := n3_; clear n0_ n1_ n2_ n3_; clear ho hb hg hat))
                  go_roundg k2
                  case measure => have := HJ2.out; have := HK2.out; omega
                  case rel => exact ⟨(y885), (wrap64 (x25_2 + 1)), (by first | rfl | (simp; done) | (simp [*]; done)), H', ⟨by have := HJ2.out; have := HK2.out; omega⟩, ⟨by (with_reducible repeat (first | apply Kd.R_alloc | apply Kd.R_drewN | apply Kd.R_drew)); exact Kd.R_mono HO887.out (fun _ hk => trivial)⟩, ⟨by repeat (first | (with_reducible first | exact HB.out | apply zA | apply zB | apply zC | refine zD ?_ GE875.out | refine zD ?_ GE882.out) | exact HB.out)⟩⟩
                 ·rw [if_neg c22] at H
                  exact absurd H (by simp)
                ·rw [if_neg c21] at H
                 exact absurd H (by simp)
               ·rw [if_neg c20] at H
                exact absurd H (by simp)
              ·replace c19 := Bool.eq_false_iff.mpr c19
               subst c19
               rw [if_neg (show ¬ (false = true) by decide)] at H
               by_cases c37 : x6_2.length < 2932031007402
               ·rw [if_pos c37] at H
                have LMc37 := zK c37
                clear c37
                obtain ⟨y888, hy888⟩ : ∃ y_ : List (S67), y_ = (x6_2 ++ [(⟨(rd_T67 l0 x25_2).f0, rd l1 ((rd_T67 l0 x25_2).f1), rd l1 ((rd_T67 l0 x25_2).f2), 0, (rd_T67 l0 x25_2).f4⟩ : S67)]) := ⟨_, rfl⟩
                replace H : (spec_RenameCode.l0 k2 l1 y888 l0 (l0.length : Int) (wrap64 (x25_2 + 1))) = some (r1, r2) := by first | (rw [hy888]; with_reducible exact H) | (have H2_ := (Option.bind_some _ _).symm.trans H; rw [hy888]; with_reducible exact H2_) | (have H2_ := (Option.bind_some _ _).symm.trans H; with_reducible exact H2_) | with_reducible exact H | (rw [hy888]; exact H) | exact H
                have Ny888 := zK hy888
                clear hy888
                have H' := zK H
                clear H
                have p874 : 0 ≤ (x25_2 : Int) := zo
                have q874 : x25_2 < (l0.length : Int) := zo
                obtain ⟨ad874, e874, hx874_0, hx874_1, hx874_2, hx874_3, hx874_4⟩ := at_T67 HR0.out x25_2 p874 q874
                cases e874
                replace hx874_0 := zt HB.out hx874_0
                replace hx874_1 := zt HB.out hx874_1
                replace hx874_2 := zt HB.out hx874_2
                replace hx874_3 := zt HB.out hx874_3
                replace hx874_4 := zt HB.out hx874_4
                replace p874 := eq_true p874
                replace q874 := eq_true q874
                try go_wp2_with (first | ((with_reducible refine gate_dst (N := 8) rfl ?_); refine box_event ?hg (N := 8) ?hd (cs := #[.string (⟨#[]⟩ : ByteArray), .int .i64 0, .int .i64 0, .int .i64 0, .int .i64 0]) (t := 67) ?hr ?_; (case hd => rfl); (case hg => rfl); (case hr => first | (go_simp; done) | (go_simp; rfl)); intro gb875 hg w38 hbox hb; have n0_ := zK (Kd.R_below (Kd.R_elderB (by (with_reducible repeat (first | apply Kd.R_alloc | apply Kd.R_drewN | apply Kd.R_drew)); exact HO_6.out) gb875 (Nat.le_of_eq hg.symm)) hb); have n1_ := zK (zL (by repeat (first | (with_reducible first | exact HB.out | apply zA | apply zB | apply zC) | exact HB.out)) hb); have n2_ := zK (hbox); have n3_ := zK ((by rw [hg]; exact (zN (by repeat (first | (with_reducible first | exact HB.out | apply zA | apply zB | apply zC) | exact HB.out))) : w.heap.size ≤ gb875)); have n4_ := n3_; clear HO_6; clear HB; have HO_6 := n0_; have HB := n1_; have BK875 := n2_; have GW875 := n3_; have GE875 := n4_; clear n0_ n1_ n2_ n3_ n4_; clear hb hbox hg; have hcz39_0 : w38.cell? ⟨gb875, 0, none⟩ = some (.string (⟨#[]⟩ : ByteArray)) := (zI BK875.out 0).trans rfl; have hcz39_1 : w38.cell? ⟨gb875, 1, none⟩ = some (.int .i64 0) := (zI BK875.out 1).trans rfl; have hcz39_2 : w38.cell? ⟨gb875, 2, none⟩ = some (.int .i64 0) := (zI BK875.out 2).trans rfl; have hcz39_3 : w38.cell? ⟨gb875, 3, none⟩ = some (.int .i64 0) := (zI BK875.out 3).trans rfl; have hcz39_4 : w38.cell? ⟨gb875, 4, none⟩ = some (.int .i64 0) := (zI BK875.out 4).trans rfl; have hfz39_0 := zH BK875.out 0; have hfz39_1 := zH BK875.out 1; have hfz39_2 := zH BK875.out 2; have hfz39_3 := zH BK875.out 3; have hfz39_4 := zH BK875.out 4) | ((with_reducible refine gate_callee (f := 92) rfl ?_); refine goesL_ (some 32) rfl rfl Try.func92 (by kernel_rfl) rfl #[.string ((rd_T67 l0 x25_2).f0)] rfl (by (try simp only [z6, z7, z8]); first | done | rfl | (simp only [z4, z5]; rfl)) ?_; (with_reducible refine (spec_cdShape.calls k2 ((rd_T67 l0 x25_2).f0) t876 true false t879 t880 _ A13.out).mono ?_); rintro e w' ⟨rfl, ⟨nd, rfl⟩⟩; refine ⟨_, rfl, ?_⟩))
                have n0_ : Aside0 (Kd.R k67 67 (((((w38.setCell ⟨gb875, 0, none⟩ (.string ((rd_T67 l0 x25_2).f0))).setCell ⟨gb875, 1, none⟩ (.int .i64 ((rd_T67 l0 x25_2).f1))).setCell ⟨gb875, 2, none⟩ (.int .i64 ((rd_T67 l0 x25_2).f2))).setCell ⟨gb875, 3, none⟩ (.int .i64 ((rd_T67 l0 x25_2).f3))).setCell ⟨gb875, 4, none⟩ (.int .i64 ((rd_T67 l0 x25_2).f4))) w.heap.size (fun k_ => k_ ≠ gb875) u6 x6_2) := ⟨by (with_reducible repeat (first | apply Kd.R_alloc | apply Kd.R_drewN | apply Kd.R_drew)); exact Kd.R_mono (Kd.R_far (p := ⟨gb875, 4, none⟩) (Kd.R_far (p := ⟨gb875, 3, none⟩) (Kd.R_far (p := ⟨gb875, 2, none⟩) (Kd.R_far (p := ⟨gb875, 1, none⟩) (Kd.R_far (p := ⟨gb875, 0, none⟩) (Kd.R_mono HO_6.out (fun k_ hk => (⟨hk, hk.2⟩ : _ ∧ k_ ≠ gb875))) (fun _ hk => hk.2) (.string ((rd_T67 l0 x25_2).f0))) (fun _ hk => hk.2) (.int .i64 ((rd_T67 l0 x25_2).f1))) (fun _ hk => hk.2) (.int .i64 ((rd_T67 l0 x25_2).f2))) (fun _ hk => hk.2) (.int .i64 ((rd_T67 l0 x25_2).f3))) (fun _ hk => hk.2) (.int .i64 ((rd_T67 l0 x25_2).f4))) (fun _ hk => hk.1.2)⟩
                have n1_ : Aside0 ((((((w38.setCell ⟨gb875, 0, none⟩ (.string ((rd_T67 l0 x25_2).f0))).setCell ⟨gb875, 1, none⟩ (.int .i64 ((rd_T67 l0 x25_2).f1))).setCell ⟨gb875, 2, none⟩ (.int .i64 ((rd_T67 l0 x25_2).f2))).setCell ⟨gb875, 3, none⟩ (.int .i64 ((rd_T67 l0 x25_2).f3))).setCell ⟨gb875, 4, none⟩ (.int .i64 ((rd_T67 l0 x25_2).f4))).heap[gb875]? = some (.cells #[.string ((rd_T67 l0 x25_2).f0), .int .i64 ((rd_T67 l0 x25_2).f1), .int .i64 ((rd_T67 l0 x25_2).f2), .int .i64 ((rd_T67 l0 x25_2).f3), .int .i64 ((rd_T67 l0 x25_2).f4)] 67 (0, 0))) := ⟨by (with_reducible repeat (first | refine zE ?_ _ | refine zF ?_ | refine zG ?_ _)); refine blk_put (cs := #[.string ((rd_T67 l0 x25_2).f0), .int .i64 ((rd_T67 l0 x25_2).f1), .int .i64 ((rd_T67 l0 x25_2).f2), .int .i64 ((rd_T67 l0 x25_2).f3), .int .i64 0]) ?_ 4 _ rfl; (with_reducible repeat (first | refine zE ?_ _ | refine zF ?_ | refine zG ?_ _)); refine blk_put (cs := #[.string ((rd_T67 l0 x25_2).f0), .int .i64 ((rd_T67 l0 x25_2).f1), .int .i64 ((rd_T67 l0 x25_2).f2), .int .i64 0, .int .i64 0]) ?_ 3 _ rfl; (with_reducible repeat (first | refine zE ?_ _ | refine zF ?_ | refine zG ?_ _)); refine blk_put (cs := #[.string ((rd_T67 l0 x25_2).f0), .int .i64 ((rd_T67 l0 x25_2).f1), .int .i64 0, .int .i64 0, .int .i64 0]) ?_ 2 _ rfl; (with_reducible repeat (first | refine zE ?_ _ | refine zF ?_ | refine zG ?_ _)); refine blk_put (cs := #[.string ((rd_T67 l0 x25_2).f0), .int .i64 0, .int .i64 0, .int .i64 0, .int .i64 0]) ?_ 1 _ rfl; (with_reducible repeat (first | refine zE ?_ _ | refine zF ?_ | refine zG ?_ _)); refine blk_put (cs := #[.string (⟨#[]⟩ : ByteArray), .int .i64 0, .int .i64 0, .int .i64 0, .int .i64 0]) ?_ 0 _ rfl; (with_reducible repeat (first | refine zE ?_ _ | refine zF ?_ | refine zG ?_ _)); exact BK875.out⟩
                have n2_ : Aside0 (Below w.heap.size w (((((w38.setCell ⟨gb875, 0, none⟩ (.string ((rd_T67 l0 x25_2).f0))).setCell ⟨gb875, 1, none⟩ (.int .i64 ((rd_T67 l0 x25_2).f1))).setCell ⟨gb875, 2, none⟩ (.int .i64 ((rd_T67 l0 x25_2).f2))).setCell ⟨gb875, 3, none⟩ (.int .i64 ((rd_T67 l0 x25_2).f3))).setCell ⟨gb875, 4, none⟩ (.int .i64 ((rd_T67 l0 x25_2).f4)))) := ⟨by repeat (first | (with_reducible first | exact HB.out | apply zA | apply zB | apply zC | refine zD ?_ GE875.out) | exact HB.out)⟩
                (try clear HO_6)
                (try clear BK875)
                (try clear HB)
                generalize (((((w38.setCell ⟨gb875, 0, none⟩ (.string ((rd_T67 l0 x25_2).f0))).setCell ⟨gb875, 1, none⟩ (.int .i64 ((rd_T67 l0 x25_2).f1))).setCell ⟨gb875, 2, none⟩ (.int .i64 ((rd_T67 l0 x25_2).f2))).setCell ⟨gb875, 3, none⟩ (.int .i64 ((rd_T67 l0 x25_2).f3))).setCell ⟨gb875, 4, none⟩ (.int .i64 ((rd_T67 l0 x25_2).f4))) = w40 at n0_ n1_ n2_ ⊢
                have HO_6 := n0_
                have BK875 := n1_
                have HB := n2_
                clear n0_ n1_ n2_
                (try (rw [drewN_self w40]; generalize hq_ : World.drewN w40 _ = w40; have n0_ : Aside0 (Kd.R k67 67 w40 w.heap.size (fun k_ => k_ ≠ gb875) u6 x6_2) := ⟨by rw [← hq_]; exact (by (with_reducible repeat (first | apply Kd.R_alloc | apply Kd.R_drewN | apply Kd.R_drew)); exact HO_6.out)⟩; have n1_ : Aside0 (w40.heap[gb875]? = some (.cells #[.string ((rd_T67 l0 x25_2).f0), .int .i64 ((rd_T67 l0 x25_2).f1), .int .i64 ((rd_T67 l0 x25_2).f2), .int .i64 ((rd_T67 l0 x25_2).f3), .int .i64 ((rd_T67 l0 x25_2).f4)] 67 (0, 0))) := ⟨by rw [← hq_]; exact (by (with_reducible repeat (first | refine zE ?_ _ | refine zF ?_ | refine zG ?_ _)); exact BK875.out)⟩; have n2_ : Aside0 (Below w.heap.size w w40) := ⟨by rw [← hq_]; exact (by repeat (first | (with_reducible first | exact HB.out | apply zA | apply zB | apply zC | refine zD ?_ GE875.out) | exact HB.out))⟩; clear HO_6 BK875 HB hq_; have HO_6 := n0_; have BK875 := n1_; have HB := n2_; clear n0_ n1_ n2_))
                have n0_ := zK (Kd.R_drew HO_6.out)
                have n1_ := zK (zF BK875.out)
                have n2_ := zK (zC HB.out)
                clear HO_6
                clear BK875
                clear HB
                have HO_6 := n0_
                have BK875 := n1_
                have HB := n2_
                clear n0_ n1_ n2_
                have p881 : 0 ≤ (((rd_T67 l0 x25_2).f1) : Int) := zo
                have q881 : ((rd_T67 l0 x25_2).f1) < (l1.length : Int) := zo
                obtain ⟨ad881, e881, hx881_0⟩ := Kd.at_int HR1.out ((rd_T67 l0 x25_2).f1) p881 q881
                have hw881_0 := hx881_0
                cases e881
                replace hx881_0 := zt HB.out hx881_0
                replace p881 := eq_true p881
                replace q881 := eq_true q881
                refine start_ (n := 12) (S := fun w' => w'.cell? ⟨gb875, 0, none⟩ = some (.string ((rd_T67 l0 x25_2).f0)) ∧ w'.cell? ⟨gb875, 1, none⟩ = some (.int .i64 ((rd_T67 l0 x25_2).f1)) ∧ w'.cell? ⟨gb875, 2, none⟩ = some (.int .i64 ((rd_T67 l0 x25_2).f2)) ∧ w'.cell? ⟨gb875, 3, none⟩ = some (.int .i64 ((rd_T67 l0 x25_2).f3)) ∧ w'.cell? ⟨gb875, 4, none⟩ = some (.int .i64 ((rd_T67 l0 x25_2).f4)) ∧ w'.cell? (ad881.add (((rd_T67 l0 x25_2).f1)).toNat) = some (.int .i64 (rd l1 ((rd_T67 l0 x25_2).f1)))) (ds := []) #[false, false, false, false, false, false, false, false, false, false, false, false] (by kernel_rfl) rfl rfl ⟨(zI BK875.out 0).trans rfl, (zI BK875.out 1).trans rfl, (zI BK875.out 2).trans rfl, (zI BK875.out 3).trans rfl, (zI BK875.out 4).trans rfl, (zt HB.out hw881_0)⟩ (fun hHeld => ?_); refine with_tabW spec_RenameCode.tab8 spec_RenameCode.bits8 (fun HT_ HW_ => ?_)
                generalize w40.drew = w41 at HO_6 BK875 HB hx881_0 hHeld ⊢
                refine pure_ (i := 0) (N := some 38) (v := ?_) (a' := ?_) #[true, false, false, false, false, false, false, false, false, false, false, false] rfl rfl (any_of HT_.out (by kernel_rfl)) (fun _ _ _ h => h) (Or.inl ⟨by rfl, ?_⟩) ?_ ?_
                rotate_left
                ·intro w'
                 go_simp
                 with_reducible rfl
                rotate_left
                ·simp only [Act.put, z1, z2, z3, i64_w, i32_w]
                 rfl
                refine pure_ (i := 2) (N := some 40) (v := ?_) (a' := ?_) #[true, false, true, false, false, false, false, false, false, false, false, false] rfl rfl (any_of HT_.out (by kernel_rfl)) (fun _ _ _ h => h) (Or.inl ⟨by rfl, ?_⟩) ?_ ?_
                rotate_left
                ·intro w'
                 go_simp
                 with_reducible rfl
                rotate_left
                ·simp only [Act.put, z1, z2, z3, i64_w, i32_w]
                 rfl
                refine pure_ (i := 3) (N := some 41) (v := ?_) (a' := ?_) #[true, false, true, true, false, false, false, false, false, false, false, false] rfl rfl (any_of HT_.out (by kernel_rfl)) (fun _ _ _ h => h) (Or.inl ⟨by rfl, ?_⟩) ?_ ?_
                rotate_left
                ·intro w'
                 go_simp
                 with_reducible rfl
                rotate_left
                ·simp only [Act.put, z1, z2, z3, i64_w, i32_w]
                 rfl
                refine pure_ (i := 7) (N := some 45) (v := ?_) (a' := ?_) #[true, false, true, true, false, false, false, true, false, false, false, false] rfl rfl (any_of HT_.out (by kernel_rfl)) (fun _ _ _ h => h) (Or.inl ⟨by rfl, ?_⟩) ?_ ?_
                rotate_left
                ·intro w'
                 go_simp
                 with_reducible rfl
                rotate_left
                ·simp only [Act.put, z1, z2, z3, i64_w, i32_w]
                 rfl
                refine take_ (i := 1) (N := some 39) (v := ?_) (a' := ?_) #[true, true, true, true, false, false, false, true, false, false, false, false] rfl rfl (take_ofW HT_.out HW_.out (by kernel_rfl)) (fun _ _ _ h => h) (Or.inl ⟨by rfl, ?_⟩) hHeld ?_ ?_
                rotate_left
                ·rintro w' ⟨s0, s1, s2, s3, s4, s5⟩
                 go_simp
                 with_reducible rfl
                rotate_left
                ·simp only [Act.put, z1, z2, z3, i64_w, i32_w]
                 rfl
                refine take_ (i := 4) (N := some 42) (v := ?_) (a' := ?_) #[true, true, true, true, true, false, false, true, false, false, false, false] rfl rfl (take_ofW HT_.out HW_.out (by kernel_rfl)) (fun _ _ _ h => h) (Or.inl ⟨by rfl, ?_⟩) hHeld ?_ ?_
                rotate_left
                ·rintro w' ⟨s0, s1, s2, s3, s4, s5⟩
                 go_simp
                 with_reducible rfl
                rotate_left
                ·simp only [Act.put, z1, z2, z3, i64_w, i32_w]
                 rfl
                refine pure_ (i := 5) (N := some 43) (v := ?_) (a' := ?_) #[true, true, true, true, true, true, false, true, false, false, false, false] rfl rfl (any_of HT_.out (by kernel_rfl)) (fun _ _ _ h => h) (Or.inl ⟨by rfl, ?_⟩) ?_ ?_
                rotate_left
                ·intro w'
                 go_simp
                 with_reducible rfl
                rotate_left
                ·simp only [Act.put, z1, z2, z3, i64_w, i32_w]
                 rfl
                refine take_ (i := 6) (N := some 44) (v := ?_) (a' := ?_) #[true, true, true, true, true, true, true, true, false, false, false, false] rfl rfl (take_ofW HT_.out HW_.out (by kernel_rfl)) (fun _ _ _ h => h) (Or.inl ⟨by rfl, ?_⟩) hHeld ?_ ?_
                rotate_left
                ·rintro w' ⟨s0, s1, s2, s3, s4, s5⟩
                 go_simp
                 with_reducible rfl
                rotate_left
                ·simp only [Act.put, z1, z2, z3, i64_w, i32_w]
                 rfl
                refine take_ (i := 8) (N := some 46) (v := ?_) (a' := ?_) #[true, true, true, true, true, true, true, true, true, false, false, false] rfl rfl (take_ofW HT_.out HW_.out (by kernel_rfl)) (fun _ _ _ h => h) (Or.inl ⟨by rfl, ?_⟩) hHeld ?_ ?_
                rotate_left
                ·rintro w' ⟨s0, s1, s2, s3, s4, s5⟩
                 go_simp
                 with_reducible rfl
                rotate_left
                ·simp only [Act.put, z1, z2, z3, i64_w, i32_w]
                 rfl
                refine pure_ (i := 9) (N := some 47) (v := ?_) (a' := ?_) #[true, true, true, true, true, true, true, true, true, true, false, false] rfl rfl (any_of HT_.out (by kernel_rfl)) (fun _ _ _ h => h) (Or.inl ⟨by rfl, ?_⟩) ?_ ?_
                rotate_left
                ·intro w'
                 go_simp
                 with_reducible rfl
                rotate_left
                ·simp only [Act.put, z1, z2, z3, i64_w, i32_w]
                 rfl
                refine one_ (i := 10) (N := some 14) #[true, true, true, true, true, true, true, true, true, true, true, false] rfl rfl (one_of HT_.out (by kernel_rfl)) (by decide) (fun K hK => ?_)
                refine box_step ?hg (N := 14) ?hd (cs := #[.string (⟨#[]⟩ : ByteArray), .int .i64 0, .int .i64 0, .int .i64 0, .int .i64 0]) (t := 67) ?hr ?_; (case hd => rfl); (case hg => rfl); (case hr => first | (go_simp; done) | (go_simp; rfl))
                intro gb882 hg w42 hbox hb
                have n0_ := zK (Kd.R_below (Kd.R_elderB (by (with_reducible repeat (first | apply Kd.R_alloc | apply Kd.R_drewN | apply Kd.R_drew)); exact HO_6.out) gb882 (Nat.le_of_eq hg.symm)) hb)
                have n1_ := zK (zM (g := gb875) (o := .cells #[.string ((rd_T67 l0 x25_2).f0), .int .i64 ((rd_T67 l0 x25_2).f1), .int .i64 ((rd_T67 l0 x25_2).f2), .int .i64 ((rd_T67 l0 x25_2).f3), .int .i64 ((rd_T67 l0 x25_2).f4)] 67 (0, 0)) (by (with_reducible repeat (first | refine zE ?_ _ | refine zF ?_ | refine zG ?_ _)); exact BK875.out) hb)
                have n2_ := zK (zL (by repeat (first | (with_reducible first | exact HB.out | apply zA | apply zB | apply zC | refine zD ?_ GE875.out) | exact HB.out)) hb)
                have n3_ := zK (hbox)
                have n4_ := zK ((by rw [hg]; exact (zN (by repeat (first | (with_reducible first | exact HB.out | apply zA | apply zB | apply zC | refine zD ?_ GE875.out) | exact HB.out))) : w.heap.size ≤ gb882))
                have n5_ := zK ((by rw [hg]; exact (zN (by repeat (first | (with_reducible first | exact HB.out | apply zA | apply zB | apply zC | refine zD ?_ GE875.out) | exact HB.out))) : w.heap.size ≤ gb882))
                have n6_ := zK ((by rw [hg]; exact Nat.ne_of_lt (blk_lt (g := gb875) (o := .cells #[.string ((rd_T67 l0 x25_2).f0), .int .i64 ((rd_T67 l0 x25_2).f1), .int .i64 ((rd_T67 l0 x25_2).f2), .int .i64 ((rd_T67 l0 x25_2).f3), .int .i64 ((rd_T67 l0 x25_2).f4)] 67 (0, 0)) (by (with_reducible repeat (first | refine zE ?_ _ | refine zF ?_ | refine zG ?_ _)); exact BK875.out)) : gb875 ≠ gb882))
                have n7_ := zK ((by rw [hg]; exact Nat.ne_of_gt (blk_lt (g := gb875) (o := .cells #[.string ((rd_T67 l0 x25_2).f0), .int .i64 ((rd_T67 l0 x25_2).f1), .int .i64 ((rd_T67 l0 x25_2).f2), .int .i64 ((rd_T67 l0 x25_2).f3), .int .i64 ((rd_T67 l0 x25_2).f4)] 67 (0, 0)) (by (with_reducible repeat (first | refine zE ?_ _ | refine zF ?_ | refine zG ?_ _)); exact BK875.out)) : gb882 ≠ gb875))
                clear HO_6
                clear BK875
                clear HB
                have HO_6 := n0_
                have BK875 := n1_
                have HB := n2_
                have BK882 := n3_
                have GW882 := n4_
                have GE882 := n5_
                have NB875_882 := n6_
                have NB882_875 := n7_
                clear n0_ n1_ n2_ n3_ n4_ n5_ n6_ n7_
                clear hb hbox hg
                refine hK.out _ _ ⟨(zI BK875.out 0).trans rfl, (zI BK875.out 1).trans rfl, (zI BK875.out 2).trans rfl, (zI BK875.out 3).trans rfl, (zI BK875.out 4).trans rfl, (zt HB.out hw881_0 :)⟩ (fun hHeld => ?_)
                clear hK K
                refine norm_ (a' := ?_) ?_ ?_
                rotate_left
                ·show Act.put _ (some 14) _ = _
                 simp only [Act.put, z1, z2, z3, i64_w, i32_w]
                 rfl
                refine one_ (i := 11) (N := none) #[true, true, true, true, true, true, true, true, true, true, true, true] rfl rfl (one_of HT_.out (by kernel_rfl)) (by decide) (fun K hK => ?_)
                have hs43 : w42.cell? ⟨gb882, 0, none⟩ = some (.string (⟨#[]⟩ : ByteArray)) := (zI BK882.out 0).trans rfl
                have hfs43 := zH BK882.out 0
                have hns43_0 := NB875_882.out
                have hms43_0 := NB882_875.out
                have hs44 : w42.cell? ⟨gb882, 1, none⟩ = some (.int .i64 0) := (zI BK882.out 1).trans rfl
                have hfs44 := zH BK882.out 1
                have hns44_0 := NB875_882.out
                have hms44_0 := NB882_875.out
                have hs45 : w42.cell? ⟨gb882, 2, none⟩ = some (.int .i64 0) := (zI BK882.out 2).trans rfl
                have hfs45 := zH BK882.out 2
                have hns45_0 := NB875_882.out
                have hms45_0 := NB882_875.out
                have hs46 : w42.cell? ⟨gb882, 3, none⟩ = some (.int .i64 0) := (zI BK882.out 3).trans rfl
                have hfs46 := zH BK882.out 3
                have hns46_0 := NB875_882.out
                have hms46_0 := NB882_875.out
                have hs47 : w42.cell? ⟨gb882, 4, none⟩ = some (.int .i64 0) := (zI BK882.out 4).trans rfl
                have hfs47 := zH BK882.out 4
                have hns47_0 := NB875_882.out
                have hms47_0 := NB882_875.out
                refine skip_ (w1 := ?_) (by rfl) rfl ?_ ?_
                rotate_left
                ·go_simp
                 rfl
                refine hK.out _ _ ⟨((cell_far (p := ⟨gb882, _, none⟩) NB875_882.out _).trans (((cell_far (p := ⟨gb882, _, none⟩) NB875_882.out _).trans (((cell_far (p := ⟨gb882, _, none⟩) NB875_882.out _).trans (((cell_far (p := ⟨gb882, _, none⟩) NB875_882.out _).trans (((cell_far (p := ⟨gb882, _, none⟩) NB875_882.out _).trans (hHeld.1)))))))))), ((cell_far (p := ⟨gb882, _, none⟩) NB875_882.out _).trans (((cell_far (p := ⟨gb882, _, none⟩) NB875_882.out _).trans (((cell_far (p := ⟨gb882, _, none⟩) NB875_882.out _).trans (((cell_far (p := ⟨gb882, _, none⟩) NB875_882.out _).trans (((cell_far (p := ⟨gb882, _, none⟩) NB875_882.out _).trans (hHeld.2.1)))))))))), ((cell_far (p := ⟨gb882, _, none⟩) NB875_882.out _).trans (((cell_far (p := ⟨gb882, _, none⟩) NB875_882.out _).trans (((cell_far (p := ⟨gb882, _, none⟩) NB875_882.out _).trans (((cell_far (p := ⟨gb882, _, none⟩) NB875_882.out _).trans (((cell_far (p := ⟨gb882, _, none⟩) NB875_882.out _).trans (hHeld.2.2.1)))))))))), ((cell_far (p := ⟨gb882, _, none⟩) NB875_882.out _).trans (((cell_far (p := ⟨gb882, _, none⟩) NB875_882.out _).trans (((cell_far (p := ⟨gb882, _, none⟩) NB875_882.out _).trans (((cell_far (p := ⟨gb882, _, none⟩) NB875_882.out _).trans (((cell_far (p := ⟨gb882, _, none⟩) NB875_882.out _).trans (hHeld.2.2.2.1)))))))))), ((cell_far (p := ⟨gb882, _, none⟩) NB875_882.out _).trans (((cell_far (p := ⟨gb882, _, none⟩) NB875_882.out _).trans (((cell_far (p := ⟨gb882, _, none⟩) NB875_882.out _).trans (((cell_far (p := ⟨gb882, _, none⟩) NB875_882.out _).trans (((cell_far (p := ⟨gb882, _, none⟩) NB875_882.out _).trans (hHeld.2.2.2.2.1)))))))))), ((cell_far (p := ⟨gb882, _, none⟩) (by first | exact Nat.ne_of_lt (Nat.lt_of_lt_of_le (by have := zW _ _ hw881_0; first | rwa [add_block] at this | exact this) GW882.out) | (rw [add_block]; exact Nat.ne_of_lt (Nat.lt_of_lt_of_le (by have := zW _ _ hw881_0; first | rwa [add_block] at this | exact this) GW882.out)) | (show (Addr.add _ _).block ≠ _; rw [add_block]; exact Nat.ne_of_lt (Nat.lt_of_lt_of_le (by have := zW _ _ hw881_0; first | rwa [add_block] at this | exact this) GW882.out)) | (dsimp only; exact Nat.ne_of_lt (Nat.lt_of_lt_of_le (by have := zW _ _ hw881_0; first | rwa [add_block] at this | exact this) GW882.out))) _).trans (((cell_far (p := ⟨gb882, _, none⟩) (by first | exact Nat.ne_of_lt (Nat.lt_of_lt_of_le (by have := zW _ _ hw881_0; first | rwa [add_block] at this | exact this) GW882.out) | (rw [add_block]; exact Nat.ne_of_lt (Nat.lt_of_lt_of_le (by have := zW _ _ hw881_0; first | rwa [add_block] at this | exact this) GW882.out)) | (show (Addr.add _ _).block ≠ _; rw [add_block]; exact Nat.ne_of_lt (Nat.lt_of_lt_of_le (by have := zW _ _ hw881_0; first | rwa [add_block] at this | exact this) GW882.out)) | (dsimp only; exact Nat.ne_of_lt (Nat.lt_of_lt_of_le (by have := zW _ _ hw881_0; first | rwa [add_block] at this | exact this) GW882.out))) _).trans (((cell_far (p := ⟨gb882, _, none⟩) (by first | exact Nat.ne_of_lt (Nat.lt_of_lt_of_le (by have := zW _ _ hw881_0; first | rwa [add_block] at this | exact this) GW882.out) | (rw [add_block]; exact Nat.ne_of_lt (Nat.lt_of_lt_of_le (by have := zW _ _ hw881_0; first | rwa [add_block] at this | exact this) GW882.out)) | (show (Addr.add _ _).block ≠ _; rw [add_block]; exact Nat.ne_of_lt (Nat.lt_of_lt_of_le (by have := zW _ _ hw881_0; first | rwa [add_block] at this | exact this) GW882.out)) | (dsimp only; exact Nat.ne_of_lt (Nat.lt_of_lt_of_le (by have := zW _ _ hw881_0; first | rwa [add_block] at this | exact this) GW882.out))) _).trans (((cell_far (p := ⟨gb882, _, none⟩) (by first | exact Nat.ne_of_lt (Nat.lt_of_lt_of_le (by have := zW _ _ hw881_0; first | rwa [add_block] at this | exact this) GW882.out) | (rw [add_block]; exact Nat.ne_of_lt (Nat.lt_of_lt_of_le (by have := zW _ _ hw881_0; first | rwa [add_block] at this | exact this) GW882.out)) | (show (Addr.add _ _).block ≠ _; rw [add_block]; exact Nat.ne_of_lt (Nat.lt_of_lt_of_le (by have := zW _ _ hw881_0; first | rwa [add_block] at this | exact this) GW882.out)) | (dsimp only; exact Nat.ne_of_lt (Nat.lt_of_lt_of_le (by have := zW _ _ hw881_0; first | rwa [add_block] at this | exact this) GW882.out))) _).trans (((cell_far (p := ⟨gb882, _, none⟩) (by first | exact Nat.ne_of_lt (Nat.lt_of_lt_of_le (by have := zW _ _ hw881_0; first | rwa [add_block] at this | exact this) GW882.out) | (rw [add_block]; exact Nat.ne_of_lt (Nat.lt_of_lt_of_le (by have := zW _ _ hw881_0; first | rwa [add_block] at this | exact this) GW882.out)) | (show (Addr.add _ _).block ≠ _; rw [add_block]; exact Nat.ne_of_lt (Nat.lt_of_lt_of_le (by have := zW _ _ hw881_0; first | rwa [add_block] at this | exact this) GW882.out)) | (dsimp only; exact Nat.ne_of_lt (Nat.lt_of_lt_of_le (by have := zW _ _ hw881_0; first | rwa [add_block] at this | exact this) GW882.out))) _).trans (hHeld.2.2.2.2.2))))))))))⟩ (fun hHeld => ?_)
                clear hK K
                refine done_ (done_of HT_.out (by kernel_rfl)) ?_
                have BKn : (((((w42.setCell ⟨gb882, 0, none⟩ (.string ((rd_T67 l0 x25_2).f0))).setCell ⟨gb882, 1, none⟩ (.int .i64 (rd l1 ((rd_T67 l0 x25_2).f1)))).setCell ⟨gb882, 2, none⟩ (.int .i64 0)).setCell ⟨gb882, 3, none⟩ (.int .i64 0)).setCell ⟨gb882, 4, none⟩ (.int .i64 ((rd_T67 l0 x25_2).f4))).heap[gb882]? = some (.cells #[.string ((rd_T67 l0 x25_2).f0), .int .i64 (rd l1 ((rd_T67 l0 x25_2).f1)), .int .i64 0, .int .i64 0, .int .i64 ((rd_T67 l0 x25_2).f4)] 67 (0, 0)) := by refine blk_put (cs := #[.string ((rd_T67 l0 x25_2).f0), .int .i64 (rd l1 ((rd_T67 l0 x25_2).f1)), .int .i64 0, .int .i64 0, .int .i64 0]) ?_ 4 _ rfl; refine blk_put (cs := #[.string ((rd_T67 l0 x25_2).f0), .int .i64 (rd l1 ((rd_T67 l0 x25_2).f1)), .int .i64 0, .int .i64 0, .int .i64 0]) ?_ 3 _ rfl; refine blk_put (cs := #[.string ((rd_T67 l0 x25_2).f0), .int .i64 (rd l1 ((rd_T67 l0 x25_2).f1)), .int .i64 0, .int .i64 0, .int .i64 0]) ?_ 2 _ rfl; refine blk_put (cs := #[.string ((rd_T67 l0 x25_2).f0), .int .i64 0, .int .i64 0, .int .i64 0, .int .i64 0]) ?_ 1 _ rfl; refine blk_put (cs := #[.string (⟨#[]⟩ : ByteArray), .int .i64 0, .int .i64 0, .int .i64 0, .int .i64 0]) ?_ 0 _ rfl; exact BK882.out
                have BFn : (((((w42.setCell ⟨gb882, 0, none⟩ (.string ((rd_T67 l0 x25_2).f0))).setCell ⟨gb882, 1, none⟩ (.int .i64 (rd l1 ((rd_T67 l0 x25_2).f1)))).setCell ⟨gb882, 2, none⟩ (.int .i64 0)).setCell ⟨gb882, 3, none⟩ (.int .i64 0)).setCell ⟨gb882, 4, none⟩ (.int .i64 ((rd_T67 l0 x25_2).f4))).heap[gb875]? = some (.cells #[.string ((rd_T67 l0 x25_2).f0), .int .i64 ((rd_T67 l0 x25_2).f1), .int .i64 ((rd_T67 l0 x25_2).f2), .int .i64 ((rd_T67 l0 x25_2).f3), .int .i64 ((rd_T67 l0 x25_2).f4)] 67 (0, 0)) := by refine blk_far ?_ NB875_882.out _; refine blk_far ?_ NB875_882.out _; refine blk_far ?_ NB875_882.out _; refine blk_far ?_ NB875_882.out _; refine blk_far ?_ NB875_882.out _; exact BK875.out
                have HBn : Below w.heap.size w (((((w42.setCell ⟨gb882, 0, none⟩ (.string ((rd_T67 l0 x25_2).f0))).setCell ⟨gb882, 1, none⟩ (.int .i64 (rd l1 ((rd_T67 l0 x25_2).f1)))).setCell ⟨gb882, 2, none⟩ (.int .i64 0)).setCell ⟨gb882, 3, none⟩ (.int .i64 0)).setCell ⟨gb882, 4, none⟩ (.int .i64 ((rd_T67 l0 x25_2).f4))) := by repeat (first | exact HB.out | refine zD ?_ GE882.out)
                have HOn := Kd.R_mono (ok' := fun k_ => k_ ≠ gb875 ∧ k_ ≠ gb882) (Kd.R_far (p := ⟨gb882, 4, none⟩) (Kd.R_far (p := ⟨gb882, 3, none⟩) (Kd.R_far (p := ⟨gb882, 2, none⟩) (Kd.R_far (p := ⟨gb882, 1, none⟩) (Kd.R_far (p := ⟨gb882, 0, none⟩) (Kd.R_mono HO_6.out (fun k_ hk => (⟨hk, hk.2⟩ : _ ∧ k_ ≠ gb882))) (fun _ hk => hk.2) (.string ((rd_T67 l0 x25_2).f0))) (fun _ hk => hk.2) (.int .i64 (rd l1 ((rd_T67 l0 x25_2).f1)))) (fun _ hk => hk.2) (.int .i64 0)) (fun _ hk => hk.2) (.int .i64 0)) (fun _ hk => hk.2) (.int .i64 ((rd_T67 l0 x25_2).f4))) (fun _ hk => ⟨hk.1.1, hk.1.2⟩)
                generalize (((((w42.setCell ⟨gb882, 0, none⟩ (.string ((rd_T67 l0 x25_2).f0))).setCell ⟨gb882, 1, none⟩ (.int .i64 (rd l1 ((rd_T67 l0 x25_2).f1)))).setCell ⟨gb882, 2, none⟩ (.int .i64 0)).setCell ⟨gb882, 3, none⟩ (.int .i64 0)).setCell ⟨gb882, 4, none⟩ (.int .i64 ((rd_T67 l0 x25_2).f4))) = wn at BKn BFn HBn HOn ⊢
                try clear BK875
                try clear BK882
                try clear HB
                try clear HO_6
                try clear hfs43
                try clear hfs44
                try clear hfs45
                try clear hfs46
                try clear hfs47
                try clear hms43_0
                try clear hms44_0
                try clear hms45_0
                try clear hms46_0
                try clear hms47_0
                try clear hns43_0
                try clear hns44_0
                try clear hns45_0
                try clear hns46_0
                try clear hns47_0
                try clear hs43
                try clear hs44
                try clear hs45
                try clear hs46
                try clear hs47
                have BK882 := zK BKn
                clear BKn
                have BK875 := zK BFn
                clear BFn
                have HB := zK HBn
                clear HBn
                have HO_6 := zK HOn
                clear HOn
                have hnb48 := NB875_882.out
                have hnc48 := NB882_875.out
                have hcz49_0 : wn.cell? ⟨gb875, 0, none⟩ = some (.string ((rd_T67 l0 x25_2).f0)) := (zI BK875.out 0).trans rfl
                have hcz49_1 : wn.cell? ⟨gb875, 1, none⟩ = some (.int .i64 ((rd_T67 l0 x25_2).f1)) := (zI BK875.out 1).trans rfl
                have hcz49_2 : wn.cell? ⟨gb875, 2, none⟩ = some (.int .i64 ((rd_T67 l0 x25_2).f2)) := (zI BK875.out 2).trans rfl
                have hcz49_3 : wn.cell? ⟨gb875, 3, none⟩ = some (.int .i64 ((rd_T67 l0 x25_2).f3)) := (zI BK875.out 3).trans rfl
                have hcz49_4 : wn.cell? ⟨gb875, 4, none⟩ = some (.int .i64 ((rd_T67 l0 x25_2).f4)) := (zI BK875.out 4).trans rfl
                have hfz49_0 := zH BK875.out 0
                have hfz49_1 := zH BK875.out 1
                have hfz49_2 := zH BK875.out 2
                have hfz49_3 := zH BK875.out 3
                have hfz49_4 := zH BK875.out 4
                have p883 : 0 ≤ (((rd_T67 l0 x25_2).f2) : Int) := zo
                have q883 : ((rd_T67 l0 x25_2).f2) < (l1.length : Int) := zo
                obtain ⟨ad883, e883, hx883_0⟩ := Kd.at_int HR1.out ((rd_T67 l0 x25_2).f2) p883 q883
                obtain rfl : ad881 = ad883 := (by injection e883)
                replace hx883_0 := zt HB.out hx883_0
                replace p883 := eq_true p883
                replace q883 := eq_true q883
                have hcz50_0 : wn.cell? ⟨gb882, 0, none⟩ = some (.string ((rd_T67 l0 x25_2).f0)) := (zI BK882.out 0).trans rfl
                have hcz50_1 : wn.cell? ⟨gb882, 1, none⟩ = some (.int .i64 (rd l1 ((rd_T67 l0 x25_2).f1))) := (zI BK882.out 1).trans rfl
                have hcz50_2 : wn.cell? ⟨gb882, 2, none⟩ = some (.int .i64 0) := (zI BK882.out 2).trans rfl
                have hcz50_3 : wn.cell? ⟨gb882, 3, none⟩ = some (.int .i64 0) := (zI BK882.out 3).trans rfl
                have hcz50_4 : wn.cell? ⟨gb882, 4, none⟩ = some (.int .i64 ((rd_T67 l0 x25_2).f4)) := (zI BK882.out 4).trans rfl
                have hfz50_0 := zH BK882.out 0
                have hfz50_1 := zH BK882.out 1
                have hfz50_2 := zH BK882.out 2
                have hfz50_3 := zH BK882.out 3
                have hfz50_4 := zH BK882.out 4
                try go_wp2_with (first | ((with_reducible refine gate_builtin (b := .append) (xs := #[.tmp 62, .tmp 64]) rfl ?_); at_builtin; refine Kd.R_append k67 (w0 := w) w.heap.size rfl (.tmp 62) (.tmp 64) 24 67 (.agg #[(.string ⟨#[]⟩), (.int .i64 0), (.int .i64 0), (.int .i64 0), (.int .i64 0)]) 48 rfl Try.underlying24 info67 rfl (by decide) (by omega) u6 x6_2 (⟨(rd_T67 l0 x25_2).f0, rd l1 ((rd_T67 l0 x25_2).f1), rd l1 ((rd_T67 l0 x25_2).f2), 0, (rd_T67 l0 x25_2).f4⟩ : S67) [.string ((rd_T67 l0 x25_2).f0), .int .i64 (rd l1 ((rd_T67 l0 x25_2).f1)), .int .i64 (rd l1 ((rd_T67 l0 x25_2).f2)), .int .i64 0, .int .i64 ((rd_T67 l0 x25_2).f4)] (fun k_ => k_ ≠ gb875 ∧ k_ ≠ gb882) (fun _ => False) rfl (by first | (go_simp; done) | (go_simp; rfl)) ?aP (fun _ hk => hk.elim) ?aF ?aO ?aB ?aS ?aL ?_; (case aP => exact k67_mkM _ _ _ (⟨(rd_T67 l0 x25_2).f0, rd l1 ((rd_T67 l0 x25_2).f1), rd l1 ((rd_T67 l0 x25_2).f2), 0, (rd_T67 l0 x25_2).f4⟩ : S67)); (case aB => exact (by repeat (first | (with_reducible first | exact HB.out | apply zA | apply zB | apply zC | refine zD ?_ GE875.out | refine zD ?_ GE882.out) | exact HB.out))); (case aF => exact (fun k_ hk => ⟨Kd.freshB (g := gb875) (o := .cells #[.string ((rd_T67 l0 x25_2).f0), .int .i64 ((rd_T67 l0 x25_2).f1), .int .i64 ((rd_T67 l0 x25_2).f2), .int .i64 ((rd_T67 l0 x25_2).f3), .int .i64 ((rd_T67 l0 x25_2).f4)] 67 (0, 0)) (by (with_reducible repeat (first | refine zE ?_ _ | refine zF ?_ | refine zG ?_ _)); refine blk_far ?_ NB875_882.out _; (with_reducible repeat (first | refine zE ?_ _ | refine zF ?_ | refine zG ?_ _)); exact BK875.out) k_ hk, Kd.freshB (g := gb882) (o := .cells #[.string ((rd_T67 l0 x25_2).f0), .int .i64 (rd l1 ((rd_T67 l0 x25_2).f1)), .int .i64 (rd l1 ((rd_T67 l0 x25_2).f2)), .int .i64 0, .int .i64 ((rd_T67 l0 x25_2).f4)] 67 (0, 0)) (by (with_reducible repeat (first | refine zE ?_ _ | refine zF ?_ | refine zG ?_ _)); refine blk_put (cs := #[.string ((rd_T67 l0 x25_2).f0), .int .i64 (rd l1 ((rd_T67 l0 x25_2).f1)), .int .i64 0, .int .i64 0, .int .i64 ((rd_T67 l0 x25_2).f4)]) ?_ 2 _ rfl; (with_reducible repeat (first | refine zE ?_ _ | refine zF ?_ | refine zG ?_ _)); exact BK882.out) k_ hk⟩)); (case aO => exact (by (with_reducible repeat (first | apply Kd.R_alloc | apply Kd.R_drewN | apply Kd.R_drew)); exact Kd.R_mono (Kd.R_far (p := ⟨gb882, 2, none⟩) (Kd.R_mono HO_6.out (fun k_ hk => (⟨hk, hk.2⟩ : _ ∧ k_ ≠ gb882))) (fun _ hk => hk.2) (.int .i64 (rd l1 ((rd_T67 l0 x25_2).f2)))) (fun _ hk => ⟨hk.1.1, hk.1.2⟩))); (case aS => exact (zN (by repeat (first | (with_reducible first | exact HB.out | apply zA | apply zB | apply zC | refine zD ?_ GE875.out | refine zD ?_ GE882.out) | exact HB.out)))); (case aL => have := LMc37.out; omega); intro v889 w51 ho hb hg hat; rw [← Ny888.out] at ho; have n0_ := zK (blk_grown (g := gb875) (o := .cells #[.string ((rd_T67 l0 x25_2).f0), .int .i64 ((rd_T67 l0 x25_2).f1), .int .i64 ((rd_T67 l0 x25_2).f2), .int .i64 ((rd_T67 l0 x25_2).f3), .int .i64 ((rd_T67 l0 x25_2).f4)] 67 (0, 0)) (by (with_reducible repeat (first | refine zE ?_ _ | refine zF ?_ | refine zG ?_ _)); refine blk_far ?_ NB875_882.out _; (with_reducible repeat (first | refine zE ?_ _ | refine zF ?_ | refine zG ?_ _)); exact BK875.out) hg (Kd.R_away HO_6.out (fun _ hk => hk.1))); have n1_ := zK (blk_grown (g := gb882) (o := .cells #[.string ((rd_T67 l0 x25_2).f0), .int .i64 (rd l1 ((rd_T67 l0 x25_2).f1)), .int .i64 (rd l1 ((rd_T67 l0 x25_2).f2)), .int .i64 0, .int .i64 ((rd_T67 l0 x25_2).f4)] 67 (0, 0)) (by (with_reducible repeat (first | refine zE ?_ _ | refine zF ?_ | refine zG ?_ _)); refine blk_put (cs := #[.string ((rd_T67 l0 x25_2).f0), .int .i64 (rd l1 ((rd_T67 l0 x25_2).f1)), .int .i64 0, .int .i64 0, .int .i64 ((rd_T67 l0 x25_2).f4)]) ?_ 2 _ rfl; (with_reducible repeat (first | refine zE ?_ _ | refine zF ?_ | refine zG ?_ _)); exact BK882.out) hg (Kd.R_away HO_6.out (fun _ hk => hk.2))); have n2_ := zK (hb); have n3_ := zK (ho); clear BK875; clear BK882; clear HB; clear HO_6; have BK875 := n0_; have BK882 := n1_; have HB := n2_; have HO890 := n3_; clear n0_ n1_ n2_ n3_; clear ho hb hg hat))
                go_roundg k2
                case measure => have := HJ2.out; have := HK2.out; omega
                case rel => exact ⟨(y888), (wrap64 (x25_2 + 1)), (by first | rfl | (simp; done) | (simp [*]; done)), H', ⟨by have := HJ2.out; have := HK2.out; omega⟩, ⟨by (with_reducible repeat (first | apply Kd.R_alloc | apply Kd.R_drewN | apply Kd.R_drew)); exact Kd.R_mono HO890.out (fun _ hk => trivial)⟩, ⟨by repeat (first | (with_reducible first | exact HB.out | apply zA | apply zB | apply zC | refine zD ?_ GE875.out | refine zD ?_ GE882.out) | exact HB.out)⟩⟩
               ·rw [if_neg c37] at H
                exact absurd H (by simp)
             ·rw [if_neg c18] at H
              exact absurd H (by simp)
            ·rw [if_neg c17] at H
             exact absurd H (by simp)
           ·replace c16 := Bool.eq_false_iff.mpr c16
            subst c16
            rw [if_neg (show ¬ (false = true) by decide)] at H
            by_cases c52 : t878 = true
            ·subst c52
             rw [if_pos rfl] at H
             by_cases c53 : 0 ≤ ((rd_T67 l0 x25_2).f3)
             ·rw [if_pos c53] at H
              have c53b0 : decide (0 ≤ ((rd_T67 l0 x25_2).f3)) = true := decide_eq_true c53
              clear c53
              by_cases c54 : ((rd_T67 l0 x25_2).f3) < (l1.length : Int)
              ·rw [if_pos c54] at H
               have c54b0 : decide (((rd_T67 l0 x25_2).f3) < (l1.length : Int)) = true := decide_eq_true c54
               clear c54
               by_cases c55 : x6_2.length < 2932031007402
               ·rw [if_pos c55] at H
                have LMc55 := zK c55
                clear c55
                obtain ⟨y892, hy892⟩ : ∃ y_ : List (S67), y_ = (x6_2 ++ [(⟨(rd_T67 l0 x25_2).f0, rd l1 ((rd_T67 l0 x25_2).f1), 0, rd l1 ((rd_T67 l0 x25_2).f3), (rd_T67 l0 x25_2).f4⟩ : S67)]) := ⟨_, rfl⟩
                replace H : (spec_RenameCode.l0 k2 l1 y892 l0 (l0.length : Int) (wrap64 (x25_2 + 1))) = some (r1, r2) := by first | (rw [hy892]; with_reducible exact H) | (have H2_ := (Option.bind_some _ _).symm.trans H; rw [hy892]; with_reducible exact H2_) | (have H2_ := (Option.bind_some _ _).symm.trans H; with_reducible exact H2_) | with_reducible exact H | (rw [hy892]; exact H) | exact H
                have Ny892 := zK hy892
                clear hy892
                have H' := zK H
                clear H
                have p874 : 0 ≤ (x25_2 : Int) := zo
                have q874 : x25_2 < (l0.length : Int) := zo
                obtain ⟨ad874, e874, hx874_0, hx874_1, hx874_2, hx874_3, hx874_4⟩ := at_T67 HR0.out x25_2 p874 q874
                cases e874
                replace hx874_0 := zt HB.out hx874_0
                replace hx874_1 := zt HB.out hx874_1
                replace hx874_2 := zt HB.out hx874_2
                replace hx874_3 := zt HB.out hx874_3
                replace hx874_4 := zt HB.out hx874_4
                replace p874 := eq_true p874
                replace q874 := eq_true q874
                try go_wp2_with (first | ((with_reducible refine gate_dst (N := 8) rfl ?_); refine box_event ?hg (N := 8) ?hd (cs := #[.string (⟨#[]⟩ : ByteArray), .int .i64 0, .int .i64 0, .int .i64 0, .int .i64 0]) (t := 67) ?hr ?_; (case hd => rfl); (case hg => rfl); (case hr => first | (go_simp; done) | (go_simp; rfl)); intro gb875 hg w56 hbox hb; have n0_ := zK (Kd.R_below (Kd.R_elderB (by (with_reducible repeat (first | apply Kd.R_alloc | apply Kd.R_drewN | apply Kd.R_drew)); exact HO_6.out) gb875 (Nat.le_of_eq hg.symm)) hb); have n1_ := zK (zL (by repeat (first | (with_reducible first | exact HB.out | apply zA | apply zB | apply zC) | exact HB.out)) hb); have n2_ := zK (hbox); have n3_ := zK ((by rw [hg]; exact (zN (by repeat (first | (with_reducible first | exact HB.out | apply zA | apply zB | apply zC) | exact HB.out))) : w.heap.size ≤ gb875)); have n4_ := n3_; clear HO_6; clear HB; have HO_6 := n0_; have HB := n1_; have BK875 := n2_; have GW875 := n3_; have GE875 := n4_; clear n0_ n1_ n2_ n3_ n4_; clear hb hbox hg; have hcz57_0 : w56.cell? ⟨gb875, 0, none⟩ = some (.string (⟨#[]⟩ : ByteArray)) := (zI BK875.out 0).trans rfl; have hcz57_1 : w56.cell? ⟨gb875, 1, none⟩ = some (.int .i64 0) := (zI BK875.out 1).trans rfl; have hcz57_2 : w56.cell? ⟨gb875, 2, none⟩ = some (.int .i64 0) := (zI BK875.out 2).trans rfl; have hcz57_3 : w56.cell? ⟨gb875, 3, none⟩ = some (.int .i64 0) := (zI BK875.out 3).trans rfl; have hcz57_4 : w56.cell? ⟨gb875, 4, none⟩ = some (.int .i64 0) := (zI BK875.out 4).trans rfl; have hfz57_0 := zH BK875.out 0; have hfz57_1 := zH BK875.out 1; have hfz57_2 := zH BK875.out 2; have hfz57_3 := zH BK875.out 3; have hfz57_4 := zH BK875.out 4) | ((with_reducible refine gate_callee (f := 92) rfl ?_); refine goesL_ (some 32) rfl rfl Try.func92 (by kernel_rfl) rfl #[.string ((rd_T67 l0 x25_2).f0)] rfl (by (try simp only [z6, z7, z8]); first | done | rfl | (simp only [z4, z5]; rfl)) ?_; (with_reducible refine (spec_cdShape.calls k2 ((rd_T67 l0 x25_2).f0) t876 false true t879 t880 _ A13.out).mono ?_); rintro e w' ⟨rfl, ⟨nd, rfl⟩⟩; refine ⟨_, rfl, ?_⟩))
                have n0_ : Aside0 (Kd.R k67 67 (((((w56.setCell ⟨gb875, 0, none⟩ (.string ((rd_T67 l0 x25_2).f0))).setCell ⟨gb875, 1, none⟩ (.int .i64 ((rd_T67 l0 x25_2).f1))).setCell ⟨gb875, 2, none⟩ (.int .i64 ((rd_T67 l0 x25_2).f2))).setCell ⟨gb875, 3, none⟩ (.int .i64 ((rd_T67 l0 x25_2).f3))).setCell ⟨gb875, 4, none⟩ (.int .i64 ((rd_T67 l0 x25_2).f4))) w.heap.size (fun k_ => k_ ≠ gb875) u6 x6_2) := ⟨by (with_reducible repeat (first | apply Kd.R_alloc | apply Kd.R_drewN | apply Kd.R_drew)); exact Kd.R_mono (Kd.R_far (p := ⟨gb875, 4, none⟩) (Kd.R_far (p := ⟨gb875, 3, none⟩) (Kd.R_far (p := ⟨gb875, 2, none⟩) (Kd.R_far (p := ⟨gb875, 1, none⟩) (Kd.R_far (p := ⟨gb875, 0, none⟩) (Kd.R_mono HO_6.out (fun k_ hk => (⟨hk, hk.2⟩ : _ ∧ k_ ≠ gb875))) (fun _ hk => hk.2) (.string ((rd_T67 l0 x25_2).f0))) (fun _ hk => hk.2) (.int .i64 ((rd_T67 l0 x25_2).f1))) (fun _ hk => hk.2) (.int .i64 ((rd_T67 l0 x25_2).f2))) (fun _ hk => hk.2) (.int .i64 ((rd_T67 l0 x25_2).f3))) (fun _ hk => hk.2) (.int .i64 ((rd_T67 l0 x25_2).f4))) (fun _ hk => hk.1.2)⟩
                have n1_ : Aside0 ((((((w56.setCell ⟨gb875, 0, none⟩ (.string ((rd_T67 l0 x25_2).f0))).setCell ⟨gb875, 1, none⟩ (.int .i64 ((rd_T67 l0 x25_2).f1))).setCell ⟨gb875, 2, none⟩ (.int .i64 ((rd_T67 l0 x25_2).f2))).setCell ⟨gb875, 3, none⟩ (.int .i64 ((rd_T67 l0 x25_2).f3))).setCell ⟨gb875, 4, none⟩ (.int .i64 ((rd_T67 l0 x25_2).f4))).heap[gb875]? = some (.cells #[.string ((rd_T67 l0 x25_2).f0), .int .i64 ((rd_T67 l0 x25_2).f1), .int .i64 ((rd_T67 l0 x25_2).f2), .int .i64 ((rd_T67 l0 x25_2).f3), .int .i64 ((rd_T67 l0 x25_2).f4)] 67 (0, 0))) := ⟨by (with_reducible repeat (first | refine zE ?_ _ | refine zF ?_ | refine zG ?_ _)); refine blk_put (cs := #[.string ((rd_T67 l0 x25_2).f0), .int .i64 ((rd_T67 l0 x25_2).f1), .int .i64 ((rd_T67 l0 x25_2).f2), .int .i64 ((rd_T67 l0 x25_2).f3), .int .i64 0]) ?_ 4 _ rfl; (with_reducible repeat (first | refine zE ?_ _ | refine zF ?_ | refine zG ?_ _)); refine blk_put (cs := #[.string ((rd_T67 l0 x25_2).f0), .int .i64 ((rd_T67 l0 x25_2).f1), .int .i64 ((rd_T67 l0 x25_2).f2), .int .i64 0, .int .i64 0]) ?_ 3 _ rfl; (with_reducible repeat (first | refine zE ?_ _ | refine zF ?_ | refine zG ?_ _)); refine blk_put (cs := #[.string ((rd_T67 l0 x25_2).f0), .int .i64 ((rd_T67 l0 x25_2).f1), .int .i64 0, .int .i64 0, .int .i64 0]) ?_ 2 _ rfl; (with_reducible repeat (first | refine zE ?_ _ | refine zF ?_ | refine zG ?_ _)); refine blk_put (cs := #[.string ((rd_T67 l0 x25_2).f0), .int .i64 0, .int .i64 0, .int .i64 0, .int .i64 0]) ?_ 1 _ rfl; (with_reducible repeat (first | refine zE ?_ _ | refine zF ?_ | refine zG ?_ _)); refine blk_put (cs := #[.string (⟨#[]⟩ : ByteArray), .int .i64 0, .int .i64 0, .int .i64 0, .int .i64 0]) ?_ 0 _ rfl; (with_reducible repeat (first | refine zE ?_ _ | refine zF ?_ | refine zG ?_ _)); exact BK875.out⟩
                have n2_ : Aside0 (Below w.heap.size w (((((w56.setCell ⟨gb875, 0, none⟩ (.string ((rd_T67 l0 x25_2).f0))).setCell ⟨gb875, 1, none⟩ (.int .i64 ((rd_T67 l0 x25_2).f1))).setCell ⟨gb875, 2, none⟩ (.int .i64 ((rd_T67 l0 x25_2).f2))).setCell ⟨gb875, 3, none⟩ (.int .i64 ((rd_T67 l0 x25_2).f3))).setCell ⟨gb875, 4, none⟩ (.int .i64 ((rd_T67 l0 x25_2).f4)))) := ⟨by repeat (first | (with_reducible first | exact HB.out | apply zA | apply zB | apply zC | refine zD ?_ GE875.out) | exact HB.out)⟩
                (try clear HO_6)
                (try clear BK875)
                (try clear HB)
                generalize (((((w56.setCell ⟨gb875, 0, none⟩ (.string ((rd_T67 l0 x25_2).f0))).setCell ⟨gb875, 1, none⟩ (.int .i64 ((rd_T67 l0 x25_2).f1))).setCell ⟨gb875, 2, none⟩ (.int .i64 ((rd_T67 l0 x25_2).f2))).setCell ⟨gb875, 3, none⟩ (.int .i64 ((rd_T67 l0 x25_2).f3))).setCell ⟨gb875, 4, none⟩ (.int .i64 ((rd_T67 l0 x25_2).f4))) = w58 at n0_ n1_ n2_ ⊢
                have HO_6 := n0_
                have BK875 := n1_
                have HB := n2_
                clear n0_ n1_ n2_
                (try (rw [drewN_self w58]; generalize hq_ : World.drewN w58 _ = w58; have n0_ : Aside0 (Kd.R k67 67 w58 w.heap.size (fun k_ => k_ ≠ gb875) u6 x6_2) := ⟨by rw [← hq_]; exact (by (with_reducible repeat (first | apply Kd.R_alloc | apply Kd.R_drewN | apply Kd.R_drew)); exact HO_6.out)⟩; have n1_ : Aside0 (w58.heap[gb875]? = some (.cells #[.string ((rd_T67 l0 x25_2).f0), .int .i64 ((rd_T67 l0 x25_2).f1), .int .i64 ((rd_T67 l0 x25_2).f2), .int .i64 ((rd_T67 l0 x25_2).f3), .int .i64 ((rd_T67 l0 x25_2).f4)] 67 (0, 0))) := ⟨by rw [← hq_]; exact (by (with_reducible repeat (first | refine zE ?_ _ | refine zF ?_ | refine zG ?_ _)); exact BK875.out)⟩; have n2_ : Aside0 (Below w.heap.size w w58) := ⟨by rw [← hq_]; exact (by repeat (first | (with_reducible first | exact HB.out | apply zA | apply zB | apply zC | refine zD ?_ GE875.out) | exact HB.out))⟩; clear HO_6 BK875 HB hq_; have HO_6 := n0_; have BK875 := n1_; have HB := n2_; clear n0_ n1_ n2_))
                have n0_ := zK (Kd.R_drew HO_6.out)
                have n1_ := zK (zF BK875.out)
                have n2_ := zK (zC HB.out)
                clear HO_6
                clear BK875
                clear HB
                have HO_6 := n0_
                have BK875 := n1_
                have HB := n2_
                clear n0_ n1_ n2_
                have p881 : 0 ≤ (((rd_T67 l0 x25_2).f1) : Int) := zo
                have q881 : ((rd_T67 l0 x25_2).f1) < (l1.length : Int) := zo
                obtain ⟨ad881, e881, hx881_0⟩ := Kd.at_int HR1.out ((rd_T67 l0 x25_2).f1) p881 q881
                have hw881_0 := hx881_0
                cases e881
                replace hx881_0 := zt HB.out hx881_0
                replace p881 := eq_true p881
                replace q881 := eq_true q881
                refine start_ (n := 12) (S := fun w' => w'.cell? ⟨gb875, 0, none⟩ = some (.string ((rd_T67 l0 x25_2).f0)) ∧ w'.cell? ⟨gb875, 1, none⟩ = some (.int .i64 ((rd_T67 l0 x25_2).f1)) ∧ w'.cell? ⟨gb875, 2, none⟩ = some (.int .i64 ((rd_T67 l0 x25_2).f2)) ∧ w'.cell? ⟨gb875, 3, none⟩ = some (.int .i64 ((rd_T67 l0 x25_2).f3)) ∧ w'.cell? ⟨gb875, 4, none⟩ = some (.int .i64 ((rd_T67 l0 x25_2).f4)) ∧ w'.cell? (ad881.add (((rd_T67 l0 x25_2).f1)).toNat) = some (.int .i64 (rd l1 ((rd_T67 l0 x25_2).f1)))) (ds := []) #[false, false, false, false, false, false, false, false, false, false, false, false] (by kernel_rfl) rfl rfl ⟨(zI BK875.out 0).trans rfl, (zI BK875.out 1).trans rfl, (zI BK875.out 2).trans rfl, (zI BK875.out 3).trans rfl, (zI BK875.out 4).trans rfl, (zt HB.out hw881_0)⟩ (fun hHeld => ?_); refine with_tabW spec_RenameCode.tab8 spec_RenameCode.bits8 (fun HT_ HW_ => ?_)
                generalize w58.drew = w59 at HO_6 BK875 HB hx881_0 hHeld ⊢
                refine pure_ (i := 0) (N := some 38) (v := ?_) (a' := ?_) #[true, false, false, false, false, false, false, false, false, false, false, false] rfl rfl (any_of HT_.out (by kernel_rfl)) (fun _ _ _ h => h) (Or.inl ⟨by rfl, ?_⟩) ?_ ?_
                rotate_left
                ·intro w'
                 go_simp
                 with_reducible rfl
                rotate_left
                ·simp only [Act.put, z1, z2, z3, i64_w, i32_w]
                 rfl
                refine pure_ (i := 2) (N := some 40) (v := ?_) (a' := ?_) #[true, false, true, false, false, false, false, false, false, false, false, false] rfl rfl (any_of HT_.out (by kernel_rfl)) (fun _ _ _ h => h) (Or.inl ⟨by rfl, ?_⟩) ?_ ?_
                rotate_left
                ·intro w'
                 go_simp
                 with_reducible rfl
                rotate_left
                ·simp only [Act.put, z1, z2, z3, i64_w, i32_w]
                 rfl
                refine pure_ (i := 3) (N := some 41) (v := ?_) (a' := ?_) #[true, false, true, true, false, false, false, false, false, false, false, false] rfl rfl (any_of HT_.out (by kernel_rfl)) (fun _ _ _ h => h) (Or.inl ⟨by rfl, ?_⟩) ?_ ?_
                rotate_left
                ·intro w'
                 go_simp
                 with_reducible rfl
                rotate_left
                ·simp only [Act.put, z1, z2, z3, i64_w, i32_w]
                 rfl
                refine pure_ (i := 7) (N := some 45) (v := ?_) (a' := ?_) #[true, false, true, true, false, false, false, true, false, false, false, false] rfl rfl (any_of HT_.out (by kernel_rfl)) (fun _ _ _ h => h) (Or.inl ⟨by rfl, ?_⟩) ?_ ?_
                rotate_left
                ·intro w'
                 go_simp
                 with_reducible rfl
                rotate_left
                ·simp only [Act.put, z1, z2, z3, i64_w, i32_w]
                 rfl
                refine take_ (i := 1) (N := some 39) (v := ?_) (a' := ?_) #[true, true, true, true, false, false, false, true, false, false, false, false] rfl rfl (take_ofW HT_.out HW_.out (by kernel_rfl)) (fun _ _ _ h => h) (Or.inl ⟨by rfl, ?_⟩) hHeld ?_ ?_
                rotate_left
                ·rintro w' ⟨s0, s1, s2, s3, s4, s5⟩
                 go_simp
                 with_reducible rfl
                rotate_left
                ·simp only [Act.put, z1, z2, z3, i64_w, i32_w]
                 rfl
                refine take_ (i := 4) (N := some 42) (v := ?_) (a' := ?_) #[true, true, true, true, true, false, false, true, false, false, false, false] rfl rfl (take_ofW HT_.out HW_.out (by kernel_rfl)) (fun _ _ _ h => h) (Or.inl ⟨by rfl, ?_⟩) hHeld ?_ ?_
                rotate_left
                ·rintro w' ⟨s0, s1, s2, s3, s4, s5⟩
                 go_simp
                 with_reducible rfl
                rotate_left
                ·simp only [Act.put, z1, z2, z3, i64_w, i32_w]
                 rfl
                refine pure_ (i := 5) (N := some 43) (v := ?_) (a' := ?_) #[true, true, true, true, true, true, false, true, false, false, false, false] rfl rfl (any_of HT_.out (by kernel_rfl)) (fun _ _ _ h => h) (Or.inl ⟨by rfl, ?_⟩) ?_ ?_
                rotate_left
                ·intro w'
                 go_simp
                 with_reducible rfl
                rotate_left
                ·simp only [Act.put, z1, z2, z3, i64_w, i32_w]
                 rfl
                refine take_ (i := 6) (N := some 44) (v := ?_) (a' := ?_) #[true, true, true, true, true, true, true, true, false, false, false, false] rfl rfl (take_ofW HT_.out HW_.out (by kernel_rfl)) (fun _ _ _ h => h) (Or.inl ⟨by rfl, ?_⟩) hHeld ?_ ?_
                rotate_left
                ·rintro w' ⟨s0, s1, s2, s3, s4, s5⟩
                 go_simp
                 with_reducible rfl
                rotate_left
                ·simp only [Act.put, z1, z2, z3, i64_w, i32_w]
                 rfl
                refine take_ (i := 8) (N := some 46) (v := ?_) (a' := ?_) #[true, true, true, true, true, true, true, true, true, false, false, false] rfl rfl (take_ofW HT_.out HW_.out (by kernel_rfl)) (fun _ _ _ h => h) (Or.inl ⟨by rfl, ?_⟩) hHeld ?_ ?_
                rotate_left
                ·rintro w' ⟨s0, s1, s2, s3, s4, s5⟩
                 go_simp
                 with_reducible rfl
                rotate_left
                ·simp only [Act.put, z1, z2, z3, i64_w, i32_w]
                 rfl
                refine pure_ (i := 9) (N := some 47) (v := ?_) (a' := ?_) #[true, true, true, true, true, true, true, true, true, true, false, false] rfl rfl (any_of HT_.out (by kernel_rfl)) (fun _ _ _ h => h) (Or.inl ⟨by rfl, ?_⟩) ?_ ?_
                rotate_left
                ·intro w'
                 go_simp
                 with_reducible rfl
                rotate_left
                ·simp only [Act.put, z1, z2, z3, i64_w, i32_w]
                 rfl
                refine one_ (i := 10) (N := some 14) #[true, true, true, true, true, true, true, true, true, true, true, false] rfl rfl (one_of HT_.out (by kernel_rfl)) (by decide) (fun K hK => ?_)
                refine box_step ?hg (N := 14) ?hd (cs := #[.string (⟨#[]⟩ : ByteArray), .int .i64 0, .int .i64 0, .int .i64 0, .int .i64 0]) (t := 67) ?hr ?_; (case hd => rfl); (case hg => rfl); (case hr => first | (go_simp; done) | (go_simp; rfl))
                intro gb882 hg w60 hbox hb
                have n0_ := zK (Kd.R_below (Kd.R_elderB (by (with_reducible repeat (first | apply Kd.R_alloc | apply Kd.R_drewN | apply Kd.R_drew)); exact HO_6.out) gb882 (Nat.le_of_eq hg.symm)) hb)
                have n1_ := zK (zM (g := gb875) (o := .cells #[.string ((rd_T67 l0 x25_2).f0), .int .i64 ((rd_T67 l0 x25_2).f1), .int .i64 ((rd_T67 l0 x25_2).f2), .int .i64 ((rd_T67 l0 x25_2).f3), .int .i64 ((rd_T67 l0 x25_2).f4)] 67 (0, 0)) (by (with_reducible repeat (first | refine zE ?_ _ | refine zF ?_ | refine zG ?_ _)); exact BK875.out) hb)
                have n2_ := zK (zL (by repeat (first | (with_reducible first | exact HB.out | apply zA | apply zB | apply zC | refine zD ?_ GE875.out) | exact HB.out)) hb)
                have n3_ := zK (hbox)
                have n4_ := zK ((by rw [hg]; exact (zN (by repeat (first | (with_reducible first | exact HB.out | apply zA | apply zB | apply zC | refine zD ?_ GE875.out) | exact HB.out))) : w.heap.size ≤ gb882))
                have n5_ := zK ((by rw [hg]; exact (zN (by repeat (first | (with_reducible first | exact HB.out | apply zA | apply zB | apply zC | refine zD ?_ GE875.out) | exact HB.out))) : w.heap.size ≤ gb882))
                have n6_ := zK ((by rw [hg]; exact Nat.ne_of_lt (blk_lt (g := gb875) (o := .cells #[.string ((rd_T67 l0 x25_2).f0), .int .i64 ((rd_T67 l0 x25_2).f1), .int .i64 ((rd_T67 l0 x25_2).f2), .int .i64 ((rd_T67 l0 x25_2).f3), .int .i64 ((rd_T67 l0 x25_2).f4)] 67 (0, 0)) (by (with_reducible repeat (first | refine zE ?_ _ | refine zF ?_ | refine zG ?_ _)); exact BK875.out)) : gb875 ≠ gb882))
                have n7_ := zK ((by rw [hg]; exact Nat.ne_of_gt (blk_lt (g := gb875) (o := .cells #[.string ((rd_T67 l0 x25_2).f0), .int .i64 ((rd_T67 l0 x25_2).f1), .int .i64 ((rd_T67 l0 x25_2).f2), .int .i64 ((rd_T67 l0 x25_2).f3), .int .i64 ((rd_T67 l0 x25_2).f4)] 67 (0, 0)) (by (with_reducible repeat (first | refine zE ?_ _ | refine zF ?_ | refine zG ?_ _)); exact BK875.out)) : gb882 ≠ gb875))
                clear HO_6
                clear BK875
                clear HB
                have HO_6 := n0_
                have BK875 := n1_
                have HB := n2_
                have BK882 := n3_
                have GW882 := n4_
                have GE882 := n5_
                have NB875_882 := n6_
                have NB882_875 := n7_
                clear n0_ n1_ n2_ n3_ n4_ n5_ n6_ n7_
                clear hb hbox hg
                refine hK.out _ _ ⟨(zI BK875.out 0).trans rfl, (zI BK875.out 1).trans rfl, (zI BK875.out 2).trans rfl, (zI BK875.out 3).trans rfl, (zI BK875.out 4).trans rfl, (zt HB.out hw881_0 :)⟩ (fun hHeld => ?_)
                clear hK K
                refine norm_ (a' := ?_) ?_ ?_
                rotate_left
                ·show Act.put _ (some 14) _ = _
                 simp only [Act.put, z1, z2, z3, i64_w, i32_w]
                 rfl
                refine one_ (i := 11) (N := none) #[true, true, true, true, true, true, true, true, true, true, true, true] rfl rfl (one_of HT_.out (by kernel_rfl)) (by decide) (fun K hK => ?_)
                have hs61 : w60.cell? ⟨gb882, 0, none⟩ = some (.string (⟨#[]⟩ : ByteArray)) := (zI BK882.out 0).trans rfl
                have hfs61 := zH BK882.out 0
                have hns61_0 := NB875_882.out
                have hms61_0 := NB882_875.out
                have hs62 : w60.cell? ⟨gb882, 1, none⟩ = some (.int .i64 0) := (zI BK882.out 1).trans rfl
                have hfs62 := zH BK882.out 1
                have hns62_0 := NB875_882.out
                have hms62_0 := NB882_875.out
                have hs63 : w60.cell? ⟨gb882, 2, none⟩ = some (.int .i64 0) := (zI BK882.out 2).trans rfl
                have hfs63 := zH BK882.out 2
                have hns63_0 := NB875_882.out
                have hms63_0 := NB882_875.out
                have hs64 : w60.cell? ⟨gb882, 3, none⟩ = some (.int .i64 0) := (zI BK882.out 3).trans rfl
                have hfs64 := zH BK882.out 3
                have hns64_0 := NB875_882.out
                have hms64_0 := NB882_875.out
                have hs65 : w60.cell? ⟨gb882, 4, none⟩ = some (.int .i64 0) := (zI BK882.out 4).trans rfl
                have hfs65 := zH BK882.out 4
                have hns65_0 := NB875_882.out
                have hms65_0 := NB882_875.out
                refine skip_ (w1 := ?_) (by rfl) rfl ?_ ?_
                rotate_left
                ·go_simp
                 rfl
                refine hK.out _ _ ⟨((cell_far (p := ⟨gb882, _, none⟩) NB875_882.out _).trans (((cell_far (p := ⟨gb882, _, none⟩) NB875_882.out _).trans (((cell_far (p := ⟨gb882, _, none⟩) NB875_882.out _).trans (((cell_far (p := ⟨gb882, _, none⟩) NB875_882.out _).trans (((cell_far (p := ⟨gb882, _, none⟩) NB875_882.out _).trans (hHeld.1)))))))))), ((cell_far (p := ⟨gb882, _, none⟩) NB875_882.out _).trans (((cell_far (p := ⟨gb882, _, none⟩) NB875_882.out _).trans (((cell_far (p := ⟨gb882, _, none⟩) NB875_882.out _).trans (((cell_far (p := ⟨gb882, _, none⟩) NB875_882.out _).trans (((cell_far (p := ⟨gb882, _, none⟩) NB875_882.out _).trans (hHeld.2.1)))))))))), ((cell_far (p := ⟨gb882, _, none⟩) NB875_882.out _).trans (((cell_far (p := ⟨gb882, _, none⟩) NB875_882.out _).trans (((cell_far (p := ⟨gb882, _, none⟩) NB875_882.out _).trans (((cell_far (p := ⟨gb882, _, none⟩) NB875_882.out _).trans (((cell_far (p := ⟨gb882, _, none⟩) NB875_882.out _).trans (hHeld.2.2.1)))))))))), ((cell_far (p := ⟨gb882, _, none⟩) NB875_882.out _).trans (((cell_far (p := ⟨gb882, _, none⟩) NB875_882.out _).trans (((cell_far (p := ⟨gb882, _, none⟩) NB875_882.out _).trans (((cell_far (p := ⟨gb882, _, none⟩) NB875_882.out _).trans (((cell_far (p := ⟨gb882, _, none⟩) NB875_882.out _).trans (hHeld.2.2.2.1)))))))))), ((cell_far (p := ⟨gb882, _, none⟩) NB875_882.out _).trans (((cell_far (p := ⟨gb882, _, none⟩) NB875_882.out _).trans (((cell_far (p := ⟨gb882, _, none⟩) NB875_882.out _).trans (((cell_far (p := ⟨gb882, _, none⟩) NB875_882.out _).trans (((cell_far (p := ⟨gb882, _, none⟩) NB875_882.out _).trans (hHeld.2.2.2.2.1)))))))))), ((cell_far (p := ⟨gb882, _, none⟩) (by first | exact Nat.ne_of_lt (Nat.lt_of_lt_of_le (by have := zW _ _ hw881_0; first | rwa [add_block] at this | exact this) GW882.out) | (rw [add_block]; exact Nat.ne_of_lt (Nat.lt_of_lt_of_le (by have := zW _ _ hw881_0; first | rwa [add_block] at this | exact this) GW882.out)) | (show (Addr.add _ _).block ≠ _; rw [add_block]; exact Nat.ne_of_lt (Nat.lt_of_lt_of_le (by have := zW _ _ hw881_0; first | rwa [add_block] at this | exact this) GW882.out)) | (dsimp only; exact Nat.ne_of_lt (Nat.lt_of_lt_of_le (by have := zW _ _ hw881_0; first | rwa [add_block] at this | exact this) GW882.out))) _).trans (((cell_far (p := ⟨gb882, _, none⟩) (by first | exact Nat.ne_of_lt (Nat.lt_of_lt_of_le (by have := zW _ _ hw881_0; first | rwa [add_block] at this | exact this) GW882.out) | (rw [add_block]; exact Nat.ne_of_lt (Nat.lt_of_lt_of_le (by have := zW _ _ hw881_0; first | rwa [add_block] at this | exact this) GW882.out)) | (show (Addr.add _ _).block ≠ _; rw [add_block]; exact Nat.ne_of_lt (Nat.lt_of_lt_of_le (by have := zW _ _ hw881_0; first | rwa [add_block] at this | exact this) GW882.out)) | (dsimp only; exact Nat.ne_of_lt (Nat.lt_of_lt_of_le (by have := zW _ _ hw881_0; first | rwa [add_block] at this | exact this) GW882.out))) _).trans (((cell_far (p := ⟨gb882, _, none⟩) (by first | exact Nat.ne_of_lt (Nat.lt_of_lt_of_le (by have := zW _ _ hw881_0; first | rwa [add_block] at this | exact this) GW882.out) | (rw [add_block]; exact Nat.ne_of_lt (Nat.lt_of_lt_of_le (by have := zW _ _ hw881_0; first | rwa [add_block] at this | exact this) GW882.out)) | (show (Addr.add _ _).block ≠ _; rw [add_block]; exact Nat.ne_of_lt (Nat.lt_of_lt_of_le (by have := zW _ _ hw881_0; first | rwa [add_block] at this | exact this) GW882.out)) | (dsimp only; exact Nat.ne_of_lt (Nat.lt_of_lt_of_le (by have := zW _ _ hw881_0; first | rwa [add_block] at this | exact this) GW882.out))) _).trans (((cell_far (p := ⟨gb882, _, none⟩) (by first | exact Nat.ne_of_lt (Nat.lt_of_lt_of_le (by have := zW _ _ hw881_0; first | rwa [add_block] at this | exact this) GW882.out) | (rw [add_block]; exact Nat.ne_of_lt (Nat.lt_of_lt_of_le (by have := zW _ _ hw881_0; first | rwa [add_block] at this | exact this) GW882.out)) | (show (Addr.add _ _).block ≠ _; rw [add_block]; exact Nat.ne_of_lt (Nat.lt_of_lt_of_le (by have := zW _ _ hw881_0; first | rwa [add_block] at this | exact this) GW882.out)) | (dsimp only; exact Nat.ne_of_lt (Nat.lt_of_lt_of_le (by have := zW _ _ hw881_0; first | rwa [add_block] at this | exact this) GW882.out))) _).trans (((cell_far (p := ⟨gb882, _, none⟩) (by first | exact Nat.ne_of_lt (Nat.lt_of_lt_of_le (by have := zW _ _ hw881_0; first | rwa [add_block] at this | exact this) GW882.out) | (rw [add_block]; exact Nat.ne_of_lt (Nat.lt_of_lt_of_le (by have := zW _ _ hw881_0; first | rwa [add_block] at this | exact this) GW882.out)) | (show (Addr.add _ _).block ≠ _; rw [add_block]; exact Nat.ne_of_lt (Nat.lt_of_lt_of_le (by have := zW _ _ hw881_0; first | rwa [add_block] at this | exact this) GW882.out)) | (dsimp only; exact Nat.ne_of_lt (Nat.lt_of_lt_of_le (by have := zW _ _ hw881_0; first | rwa [add_block] at this | exact this) GW882.out))) _).trans (hHeld.2.2.2.2.2))))))))))⟩ (fun hHeld => ?_)
                clear hK K
                refine done_ (done_of HT_.out (by kernel_rfl)) ?_
                have BKn : (((((w60.setCell ⟨gb882, 0, none⟩ (.string ((rd_T67 l0 x25_2).f0))).setCell ⟨gb882, 1, none⟩ (.int .i64 (rd l1 ((rd_T67 l0 x25_2).f1)))).setCell ⟨gb882, 2, none⟩ (.int .i64 0)).setCell ⟨gb882, 3, none⟩ (.int .i64 0)).setCell ⟨gb882, 4, none⟩ (.int .i64 ((rd_T67 l0 x25_2).f4))).heap[gb882]? = some (.cells #[.string ((rd_T67 l0 x25_2).f0), .int .i64 (rd l1 ((rd_T67 l0 x25_2).f1)), .int .i64 0, .int .i64 0, .int .i64 ((rd_T67 l0 x25_2).f4)] 67 (0, 0)) := by refine blk_put (cs := #[.string ((rd_T67 l0 x25_2).f0), .int .i64 (rd l1 ((rd_T67 l0 x25_2).f1)), .int .i64 0, .int .i64 0, .int .i64 0]) ?_ 4 _ rfl; refine blk_put (cs := #[.string ((rd_T67 l0 x25_2).f0), .int .i64 (rd l1 ((rd_T67 l0 x25_2).f1)), .int .i64 0, .int .i64 0, .int .i64 0]) ?_ 3 _ rfl; refine blk_put (cs := #[.string ((rd_T67 l0 x25_2).f0), .int .i64 (rd l1 ((rd_T67 l0 x25_2).f1)), .int .i64 0, .int .i64 0, .int .i64 0]) ?_ 2 _ rfl; refine blk_put (cs := #[.string ((rd_T67 l0 x25_2).f0), .int .i64 0, .int .i64 0, .int .i64 0, .int .i64 0]) ?_ 1 _ rfl; refine blk_put (cs := #[.string (⟨#[]⟩ : ByteArray), .int .i64 0, .int .i64 0, .int .i64 0, .int .i64 0]) ?_ 0 _ rfl; exact BK882.out
                have BFn : (((((w60.setCell ⟨gb882, 0, none⟩ (.string ((rd_T67 l0 x25_2).f0))).setCell ⟨gb882, 1, none⟩ (.int .i64 (rd l1 ((rd_T67 l0 x25_2).f1)))).setCell ⟨gb882, 2, none⟩ (.int .i64 0)).setCell ⟨gb882, 3, none⟩ (.int .i64 0)).setCell ⟨gb882, 4, none⟩ (.int .i64 ((rd_T67 l0 x25_2).f4))).heap[gb875]? = some (.cells #[.string ((rd_T67 l0 x25_2).f0), .int .i64 ((rd_T67 l0 x25_2).f1), .int .i64 ((rd_T67 l0 x25_2).f2), .int .i64 ((rd_T67 l0 x25_2).f3), .int .i64 ((rd_T67 l0 x25_2).f4)] 67 (0, 0)) := by refine blk_far ?_ NB875_882.out _; refine blk_far ?_ NB875_882.out _; refine blk_far ?_ NB875_882.out _; refine blk_far ?_ NB875_882.out _; refine blk_far ?_ NB875_882.out _; exact BK875.out
                have HBn : Below w.heap.size w (((((w60.setCell ⟨gb882, 0, none⟩ (.string ((rd_T67 l0 x25_2).f0))).setCell ⟨gb882, 1, none⟩ (.int .i64 (rd l1 ((rd_T67 l0 x25_2).f1)))).setCell ⟨gb882, 2, none⟩ (.int .i64 0)).setCell ⟨gb882, 3, none⟩ (.int .i64 0)).setCell ⟨gb882, 4, none⟩ (.int .i64 ((rd_T67 l0 x25_2).f4))) := by repeat (first | exact HB.out | refine zD ?_ GE882.out)
                have HOn := Kd.R_mono (ok' := fun k_ => k_ ≠ gb875 ∧ k_ ≠ gb882) (Kd.R_far (p := ⟨gb882, 4, none⟩) (Kd.R_far (p := ⟨gb882, 3, none⟩) (Kd.R_far (p := ⟨gb882, 2, none⟩) (Kd.R_far (p := ⟨gb882, 1, none⟩) (Kd.R_far (p := ⟨gb882, 0, none⟩) (Kd.R_mono HO_6.out (fun k_ hk => (⟨hk, hk.2⟩ : _ ∧ k_ ≠ gb882))) (fun _ hk => hk.2) (.string ((rd_T67 l0 x25_2).f0))) (fun _ hk => hk.2) (.int .i64 (rd l1 ((rd_T67 l0 x25_2).f1)))) (fun _ hk => hk.2) (.int .i64 0)) (fun _ hk => hk.2) (.int .i64 0)) (fun _ hk => hk.2) (.int .i64 ((rd_T67 l0 x25_2).f4))) (fun _ hk => ⟨hk.1.1, hk.1.2⟩)
                generalize (((((w60.setCell ⟨gb882, 0, none⟩ (.string ((rd_T67 l0 x25_2).f0))).setCell ⟨gb882, 1, none⟩ (.int .i64 (rd l1 ((rd_T67 l0 x25_2).f1)))).setCell ⟨gb882, 2, none⟩ (.int .i64 0)).setCell ⟨gb882, 3, none⟩ (.int .i64 0)).setCell ⟨gb882, 4, none⟩ (.int .i64 ((rd_T67 l0 x25_2).f4))) = wn at BKn BFn HBn HOn ⊢
                try clear BK875
                try clear BK882
                try clear HB
                try clear HO_6
                try clear hfs61
                try clear hfs62
                try clear hfs63
                try clear hfs64
                try clear hfs65
                try clear hms61_0
                try clear hms62_0
                try clear hms63_0
                try clear hms64_0
                try clear hms65_0
                try clear hns61_0
                try clear hns62_0
                try clear hns63_0
                try clear hns64_0
                try clear hns65_0
                try clear hs61
                try clear hs62
                try clear hs63
                try clear hs64
                try clear hs65
                have BK882 := zK BKn
                clear BKn
                have BK875 := zK BFn
                clear BFn
                have HB := zK HBn
                clear HBn
                have HO_6 := zK HOn
                clear HOn
                have hnb66 := NB875_882.out
                have hnc66 := NB882_875.out
                have hcz67_0 : wn.cell? ⟨gb875, 0, none⟩ = some (.string ((rd_T67 l0 x25_2).f0)) := (zI BK875.out 0).trans rfl
                have hcz67_1 : wn.cell? ⟨gb875, 1, none⟩ = some (.int .i64 ((rd_T67 l0 x25_2).f1)) := (zI BK875.out 1).trans rfl
                have hcz67_2 : wn.cell? ⟨gb875, 2, none⟩ = some (.int .i64 ((rd_T67 l0 x25_2).f2)) := (zI BK875.out 2).trans rfl
                have hcz67_3 : wn.cell? ⟨gb875, 3, none⟩ = some (.int .i64 ((rd_T67 l0 x25_2).f3)) := (zI BK875.out 3).trans rfl
                have hcz67_4 : wn.cell? ⟨gb875, 4, none⟩ = some (.int .i64 ((rd_T67 l0 x25_2).f4)) := (zI BK875.out 4).trans rfl
                have hfz67_0 := zH BK875.out 0
                have hfz67_1 := zH BK875.out 1
                have hfz67_2 := zH BK875.out 2
                have hfz67_3 := zH BK875.out 3
                have hfz67_4 := zH BK875.out 4
                have p891 : 0 ≤ (((rd_T67 l0 x25_2).f3) : Int) := zo
                have q891 : ((rd_T67 l0 x25_2).f3) < (l1.length : Int) := zo
                obtain ⟨ad891, e891, hx891_0⟩ := Kd.at_int HR1.out ((rd_T67 l0 x25_2).f3) p891 q891
                obtain rfl : ad881 = ad891 := (by injection e891)
                replace hx891_0 := zt HB.out hx891_0
                replace p891 := eq_true p891
                replace q891 := eq_true q891
                have hcz68_0 : wn.cell? ⟨gb882, 0, none⟩ = some (.string ((rd_T67 l0 x25_2).f0)) := (zI BK882.out 0).trans rfl
                have hcz68_1 : wn.cell? ⟨gb882, 1, none⟩ = some (.int .i64 (rd l1 ((rd_T67 l0 x25_2).f1))) := (zI BK882.out 1).trans rfl
                have hcz68_2 : wn.cell? ⟨gb882, 2, none⟩ = some (.int .i64 0) := (zI BK882.out 2).trans rfl
                have hcz68_3 : wn.cell? ⟨gb882, 3, none⟩ = some (.int .i64 0) := (zI BK882.out 3).trans rfl
                have hcz68_4 : wn.cell? ⟨gb882, 4, none⟩ = some (.int .i64 ((rd_T67 l0 x25_2).f4)) := (zI BK882.out 4).trans rfl
                have hfz68_0 := zH BK882.out 0
                have hfz68_1 := zH BK882.out 1
                have hfz68_2 := zH BK882.out 2
                have hfz68_3 := zH BK882.out 3
                have hfz68_4 := zH BK882.out 4
                try go_wp2_with (first | ((with_reducible refine gate_builtin (b := .append) (xs := #[.tmp 62, .tmp 64]) rfl ?_); at_builtin; refine Kd.R_append k67 (w0 := w) w.heap.size rfl (.tmp 62) (.tmp 64) 24 67 (.agg #[(.string ⟨#[]⟩), (.int .i64 0), (.int .i64 0), (.int .i64 0), (.int .i64 0)]) 48 rfl Try.underlying24 info67 rfl (by decide) (by omega) u6 x6_2 (⟨(rd_T67 l0 x25_2).f0, rd l1 ((rd_T67 l0 x25_2).f1), 0, rd l1 ((rd_T67 l0 x25_2).f3), (rd_T67 l0 x25_2).f4⟩ : S67) [.string ((rd_T67 l0 x25_2).f0), .int .i64 (rd l1 ((rd_T67 l0 x25_2).f1)), .int .i64 0, .int .i64 (rd l1 ((rd_T67 l0 x25_2).f3)), .int .i64 ((rd_T67 l0 x25_2).f4)] (fun k_ => k_ ≠ gb875 ∧ k_ ≠ gb882) (fun _ => False) rfl (by first | (go_simp; done) | (go_simp; rfl)) ?aP (fun _ hk => hk.elim) ?aF ?aO ?aB ?aS ?aL ?_; (case aP => exact k67_mkM _ _ _ (⟨(rd_T67 l0 x25_2).f0, rd l1 ((rd_T67 l0 x25_2).f1), 0, rd l1 ((rd_T67 l0 x25_2).f3), (rd_T67 l0 x25_2).f4⟩ : S67)); (case aB => exact (by repeat (first | (with_reducible first | exact HB.out | apply zA | apply zB | apply zC | refine zD ?_ GE875.out | refine zD ?_ GE882.out) | exact HB.out))); (case aF => exact (fun k_ hk => ⟨Kd.freshB (g := gb875) (o := .cells #[.string ((rd_T67 l0 x25_2).f0), .int .i64 ((rd_T67 l0 x25_2).f1), .int .i64 ((rd_T67 l0 x25_2).f2), .int .i64 ((rd_T67 l0 x25_2).f3), .int .i64 ((rd_T67 l0 x25_2).f4)] 67 (0, 0)) (by (with_reducible repeat (first | refine zE ?_ _ | refine zF ?_ | refine zG ?_ _)); refine blk_far ?_ NB875_882.out _; (with_reducible repeat (first | refine zE ?_ _ | refine zF ?_ | refine zG ?_ _)); exact BK875.out) k_ hk, Kd.freshB (g := gb882) (o := .cells #[.string ((rd_T67 l0 x25_2).f0), .int .i64 (rd l1 ((rd_T67 l0 x25_2).f1)), .int .i64 0, .int .i64 (rd l1 ((rd_T67 l0 x25_2).f3)), .int .i64 ((rd_T67 l0 x25_2).f4)] 67 (0, 0)) (by (with_reducible repeat (first | refine zE ?_ _ | refine zF ?_ | refine zG ?_ _)); refine blk_put (cs := #[.string ((rd_T67 l0 x25_2).f0), .int .i64 (rd l1 ((rd_T67 l0 x25_2).f1)), .int .i64 0, .int .i64 0, .int .i64 ((rd_T67 l0 x25_2).f4)]) ?_ 3 _ rfl; (with_reducible repeat (first | refine zE ?_ _ | refine zF ?_ | refine zG ?_ _)); exact BK882.out) k_ hk⟩)); (case aO => exact (by (with_reducible repeat (first | apply Kd.R_alloc | apply Kd.R_drewN | apply Kd.R_drew)); exact Kd.R_mono (Kd.R_far (p := ⟨gb882, 3, none⟩) (Kd.R_mono HO_6.out (fun k_ hk => (⟨hk, hk.2⟩ : _ ∧ k_ ≠ gb882))) (fun _ hk => hk.2) (.int .i64 (rd l1 ((rd_T67 l0 x25_2).f3)))) (fun _ hk => ⟨hk.1.1, hk.1.2⟩))); (case aS => exact (zN (by repeat (first | (with_reducible first | exact HB.out | apply zA | apply zB | apply zC | refine zD ?_ GE875.out | refine zD ?_ GE882.out) | exact HB.out)))); (case aL => have := LMc55.out; omega); intro v893 w69 ho hb hg hat; rw [← Ny892.out] at ho; have n0_ := zK (blk_grown (g := gb875) (o := .cells #[.string ((rd_T67 l0 x25_2).f0), .int .i64 ((rd_T67 l0 x25_2).f1), .int .i64 ((rd_T67 l0 x25_2).f2), .int .i64 ((rd_T67 l0 x25_2).f3), .int .i64 ((rd_T67 l0 x25_2).f4)] 67 (0, 0)) (by (with_reducible repeat (first | refine zE ?_ _ | refine zF ?_ | refine zG ?_ _)); refine blk_far ?_ NB875_882.out _; (with_reducible repeat (first | refine zE ?_ _ | refine zF ?_ | refine zG ?_ _)); exact BK875.out) hg (Kd.R_away HO_6.out (fun _ hk => hk.1))); have n1_ := zK (blk_grown (g := gb882) (o := .cells #[.string ((rd_T67 l0 x25_2).f0), .int .i64 (rd l1 ((rd_T67 l0 x25_2).f1)), .int .i64 0, .int .i64 (rd l1 ((rd_T67 l0 x25_2).f3)), .int .i64 ((rd_T67 l0 x25_2).f4)] 67 (0, 0)) (by (with_reducible repeat (first | refine zE ?_ _ | refine zF ?_ | refine zG ?_ _)); refine blk_put (cs := #[.string ((rd_T67 l0 x25_2).f0), .int .i64 (rd l1 ((rd_T67 l0 x25_2).f1)), .int .i64 0, .int .i64 0, .int .i64 ((rd_T67 l0 x25_2).f4)]) ?_ 3 _ rfl; (with_reducible repeat (first | refine zE ?_ _ | refine zF ?_ | refine zG ?_ _)); exact BK882.out) hg (Kd.R_away HO_6.out (fun _ hk => hk.2))); have n2_ := zK (hb); have n3_ := zK (ho); clear BK875; clear BK882; clear HB; clear HO_6; have BK875 := n0_; have BK882 := n1_; have HB := n2_; have HO894 := n3_; clear n0_ n1_ n2_ n3_; clear ho hb hg hat))
                go_roundg k2
                case measure => have := HJ2.out; have := HK2.out; omega
                case rel => exact ⟨(y892), (wrap64 (x25_2 + 1)), (by first | rfl | (simp; done) | (simp [*]; done)), H', ⟨by have := HJ2.out; have := HK2.out; omega⟩, ⟨by (with_reducible repeat (first | apply Kd.R_alloc | apply Kd.R_drewN | apply Kd.R_drew)); exact Kd.R_mono HO894.out (fun _ hk => trivial)⟩, ⟨by repeat (first | (with_reducible first | exact HB.out | apply zA | apply zB | apply zC | refine zD ?_ GE875.out | refine zD ?_ GE882.out) | exact HB.out)⟩⟩
               ·rw [if_neg c55] at H
                exact absurd H (by simp)
              ·rw [if_neg c54] at H
               exact absurd H (by simp)
             ·rw [if_neg c53] at H
              exact absurd H (by simp)
            ·replace c52 := Bool.eq_false_iff.mpr c52
             subst c52
             rw [if_neg (show ¬ (false = true) by decide)] at H
             by_cases c70 : x6_2.length < 2932031007402
             ·rw [if_pos c70] at H
              have LMc70 := zK c70
              clear c70
              obtain ⟨y895, hy895⟩ : ∃ y_ : List (S67), y_ = (x6_2 ++ [(⟨(rd_T67 l0 x25_2).f0, rd l1 ((rd_T67 l0 x25_2).f1), 0, 0, (rd_T67 l0 x25_2).f4⟩ : S67)]) := ⟨_, rfl⟩
              replace H : (spec_RenameCode.l0 k2 l1 y895 l0 (l0.length : Int) (wrap64 (x25_2 + 1))) = some (r1, r2) := by first | (rw [hy895]; with_reducible exact H) | (have H2_ := (Option.bind_some _ _).symm.trans H; rw [hy895]; with_reducible exact H2_) | (have H2_ := (Option.bind_some _ _).symm.trans H; with_reducible exact H2_) | with_reducible exact H | (rw [hy895]; exact H) | exact H
              have Ny895 := zK hy895
              clear hy895
              have H' := zK H
              clear H
              have p874 : 0 ≤ (x25_2 : Int) := zo
              have q874 : x25_2 < (l0.length : Int) := zo
              obtain ⟨ad874, e874, hx874_0, hx874_1, hx874_2, hx874_3, hx874_4⟩ := at_T67 HR0.out x25_2 p874 q874
              cases e874
              replace hx874_0 := zt HB.out hx874_0
              replace hx874_1 := zt HB.out hx874_1
              replace hx874_2 := zt HB.out hx874_2
              replace hx874_3 := zt HB.out hx874_3
              replace hx874_4 := zt HB.out hx874_4
              replace p874 := eq_true p874
              replace q874 := eq_true q874
              try go_wp2_with (first | ((with_reducible refine gate_dst (N := 8) rfl ?_); refine box_event ?hg (N := 8) ?hd (cs := #[.string (⟨#[]⟩ : ByteArray), .int .i64 0, .int .i64 0, .int .i64 0, .int .i64 0]) (t := 67) ?hr ?_; (case hd => rfl); (case hg => rfl); (case hr => first | (go_simp; done) | (go_simp; rfl)); intro gb875 hg w71 hbox hb; have n0_ := zK (Kd.R_below (Kd.R_elderB (by (with_reducible repeat (first | apply Kd.R_alloc | apply Kd.R_drewN | apply Kd.R_drew)); exact HO_6.out) gb875 (Nat.le_of_eq hg.symm)) hb); have n1_ := zK (zL (by repeat (first | (with_reducible first | exact HB.out | apply zA | apply zB | apply zC) | exact HB.out)) hb); have n2_ := zK (hbox); have n3_ := zK ((by rw [hg]; exact (zN (by repeat (first | (with_reducible first | exact HB.out | apply zA | apply zB | apply zC) | exact HB.out))) : w.heap.size ≤ gb875)); have n4_ := n3_; clear HO_6; clear HB; have HO_6 := n0_; have HB := n1_; have BK875 := n2_; have GW875 := n3_; have GE875 := n4_; clear n0_ n1_ n2_ n3_ n4_; clear hb hbox hg; have hcz72_0 : w71.cell? ⟨gb875, 0, none⟩ = some (.string (⟨#[]⟩ : ByteArray)) := (zI BK875.out 0).trans rfl; have hcz72_1 : w71.cell? ⟨gb875, 1, none⟩ = some (.int .i64 0) := (zI BK875.out 1).trans rfl; have hcz72_2 : w71.cell? ⟨gb875, 2, none⟩ = some (.int .i64 0) := (zI BK875.out 2).trans rfl; have hcz72_3 : w71.cell? ⟨gb875, 3, none⟩ = some (.int .i64 0) := (zI BK875.out 3).trans rfl; have hcz72_4 : w71.cell? ⟨gb875, 4, none⟩ = some (.int .i64 0) := (zI BK875.out 4).trans rfl; have hfz72_0 := zH BK875.out 0; have hfz72_1 := zH BK875.out 1; have hfz72_2 := zH BK875.out 2; have hfz72_3 := zH BK875.out 3; have hfz72_4 := zH BK875.out 4) | ((with_reducible refine gate_callee (f := 92) rfl ?_); refine goesL_ (some 32) rfl rfl Try.func92 (by kernel_rfl) rfl #[.string ((rd_T67 l0 x25_2).f0)] rfl (by (try simp only [z6, z7, z8]); first | done | rfl | (simp only [z4, z5]; rfl)) ?_; (with_reducible refine (spec_cdShape.calls k2 ((rd_T67 l0 x25_2).f0) t876 false false t879 t880 _ A13.out).mono ?_); rintro e w' ⟨rfl, ⟨nd, rfl⟩⟩; refine ⟨_, rfl, ?_⟩))
              have n0_ : Aside0 (Kd.R k67 67 (((((w71.setCell ⟨gb875, 0, none⟩ (.string ((rd_T67 l0 x25_2).f0))).setCell ⟨gb875, 1, none⟩ (.int .i64 ((rd_T67 l0 x25_2).f1))).setCell ⟨gb875, 2, none⟩ (.int .i64 ((rd_T67 l0 x25_2).f2))).setCell ⟨gb875, 3, none⟩ (.int .i64 ((rd_T67 l0 x25_2).f3))).setCell ⟨gb875, 4, none⟩ (.int .i64 ((rd_T67 l0 x25_2).f4))) w.heap.size (fun k_ => k_ ≠ gb875) u6 x6_2) := ⟨by (with_reducible repeat (first | apply Kd.R_alloc | apply Kd.R_drewN | apply Kd.R_drew)); exact Kd.R_mono (Kd.R_far (p := ⟨gb875, 4, none⟩) (Kd.R_far (p := ⟨gb875, 3, none⟩) (Kd.R_far (p := ⟨gb875, 2, none⟩) (Kd.R_far (p := ⟨gb875, 1, none⟩) (Kd.R_far (p := ⟨gb875, 0, none⟩) (Kd.R_mono HO_6.out (fun k_ hk => (⟨hk, hk.2⟩ : _ ∧ k_ ≠ gb875))) (fun _ hk => hk.2) (.string ((rd_T67 l0 x25_2).f0))) (fun _ hk => hk.2) (.int .i64 ((rd_T67 l0 x25_2).f1))) (fun _ hk => hk.2) (.int .i64 ((rd_T67 l0 x25_2).f2))) (fun _ hk => hk.2) (.int .i64 ((rd_T67 l0 x25_2).f3))) (fun _ hk => hk.2) (.int .i64 ((rd_T67 l0 x25_2).f4))) (fun _ hk => hk.1.2)⟩
              have n1_ : Aside0 ((((((w71.setCell ⟨gb875, 0, none⟩ (.string ((rd_T67 l0 x25_2).f0))).setCell ⟨gb875, 1, none⟩ (.int .i64 ((rd_T67 l0 x25_2).f1))).setCell ⟨gb875, 2, none⟩ (.int .i64 ((rd_T67 l0 x25_2).f2))).setCell ⟨gb875, 3, none⟩ (.int .i64 ((rd_T67 l0 x25_2).f3))).setCell ⟨gb875, 4, none⟩ (.int .i64 ((rd_T67 l0 x25_2).f4))).heap[gb875]? = some (.cells #[.string ((rd_T67 l0 x25_2).f0), .int .i64 ((rd_T67 l0 x25_2).f1), .int .i64 ((rd_T67 l0 x25_2).f2), .int .i64 ((rd_T67 l0 x25_2).f3), .int .i64 ((rd_T67 l0 x25_2).f4)] 67 (0, 0))) := ⟨by (with_reducible repeat (first | refine zE ?_ _ | refine zF ?_ | refine zG ?_ _)); refine blk_put (cs := #[.string ((rd_T67 l0 x25_2).f0), .int .i64 ((rd_T67 l0 x25_2).f1), .int .i64 ((rd_T67 l0 x25_2).f2), .int .i64 ((rd_T67 l0 x25_2).f3), .int .i64 0]) ?_ 4 _ rfl; (with_reducible repeat (first | refine zE ?_ _ | refine zF ?_ | refine zG ?_ _)); refine blk_put (cs := #[.string ((rd_T67 l0 x25_2).f0), .int .i64 ((rd_T67 l0 x25_2).f1), .int .i64 ((rd_T67 l0 x25_2).f2), .int .i64 0, .int .i64 0]) ?_ 3 _ rfl; (with_reducible repeat (first | refine zE ?_ _ | refine zF ?_ | refine zG ?_ _)); refine blk_put (cs := #[.string ((rd_T67 l0 x25_2).f0), .int .i64 ((rd_T67 l0 x25_2).f1), .int .i64 0, .int .i64 0, .int .i64 0]) ?_ 2 _ rfl; (with_reducible repeat (first | refine zE ?_ _ | refine zF ?_ | refine zG ?_ _)); refine blk_put (cs := #[.string ((rd_T67 l0 x25_2).f0), .int .i64 0, .int .i64 0, .int .i64 0, .int .i64 0]) ?_ 1 _ rfl; (with_reducible repeat (first | refine zE ?_ _ | refine zF ?_ | refine zG ?_ _)); refine blk_put (cs := #[.string (⟨#[]⟩ : ByteArray), .int .i64 0, .int .i64 0, .int .i64 0, .int .i64 0]) ?_ 0 _ rfl; (with_reducible repeat (first | refine zE ?_ _ | refine zF ?_ | refine zG ?_ _)); exact BK875.out⟩
              have n2_ : Aside0 (Below w.heap.size w (((((w71.setCell ⟨gb875, 0, none⟩ (.string ((rd_T67 l0 x25_2).f0))).setCell ⟨gb875, 1, none⟩ (.int .i64 ((rd_T67 l0 x25_2).f1))).setCell ⟨gb875, 2, none⟩ (.int .i64 ((rd_T67 l0 x25_2).f2))).setCell ⟨gb875, 3, none⟩ (.int .i64 ((rd_T67 l0 x25_2).f3))).setCell ⟨gb875, 4, none⟩ (.int .i64 ((rd_T67 l0 x25_2).f4)))) := ⟨by repeat (first | (with_reducible first | exact HB.out | apply zA | apply zB | apply zC | refine zD ?_ GE875.out) | exact HB.out)⟩
              (try clear HO_6)
              (try clear BK875)
              (try clear HB)
              generalize (((((w71.setCell ⟨gb875, 0, none⟩ (.string ((rd_T67 l0 x25_2).f0))).setCell ⟨gb875, 1, none⟩ (.int .i64 ((rd_T67 l0 x25_2).f1))).setCell ⟨gb875, 2, none⟩ (.int .i64 ((rd_T67 l0 x25_2).f2))).setCell ⟨gb875, 3, none⟩ (.int .i64 ((rd_T67 l0 x25_2).f3))).setCell ⟨gb875, 4, none⟩ (.int .i64 ((rd_T67 l0 x25_2).f4))) = w73 at n0_ n1_ n2_ ⊢
              have HO_6 := n0_
              have BK875 := n1_
              have HB := n2_
              clear n0_ n1_ n2_
              (try (rw [drewN_self w73]; generalize hq_ : World.drewN w73 _ = w73; have n0_ : Aside0 (Kd.R k67 67 w73 w.heap.size (fun k_ => k_ ≠ gb875) u6 x6_2) := ⟨by rw [← hq_]; exact (by (with_reducible repeat (first | apply Kd.R_alloc | apply Kd.R_drewN | apply Kd.R_drew)); exact HO_6.out)⟩; have n1_ : Aside0 (w73.heap[gb875]? = some (.cells #[.string ((rd_T67 l0 x25_2).f0), .int .i64 ((rd_T67 l0 x25_2).f1), .int .i64 ((rd_T67 l0 x25_2).f2), .int .i64 ((rd_T67 l0 x25_2).f3), .int .i64 ((rd_T67 l0 x25_2).f4)] 67 (0, 0))) := ⟨by rw [← hq_]; exact (by (with_reducible repeat (first | refine zE ?_ _ | refine zF ?_ | refine zG ?_ _)); exact BK875.out)⟩; have n2_ : Aside0 (Below w.heap.size w w73) := ⟨by rw [← hq_]; exact (by repeat (first | (with_reducible first | exact HB.out | apply zA | apply zB | apply zC | refine zD ?_ GE875.out) | exact HB.out))⟩; clear HO_6 BK875 HB hq_; have HO_6 := n0_; have BK875 := n1_; have HB := n2_; clear n0_ n1_ n2_))
              have n0_ := zK (Kd.R_drew HO_6.out)
              have n1_ := zK (zF BK875.out)
              have n2_ := zK (zC HB.out)
              clear HO_6
              clear BK875
              clear HB
              have HO_6 := n0_
              have BK875 := n1_
              have HB := n2_
              clear n0_ n1_ n2_
              have p881 : 0 ≤ (((rd_T67 l0 x25_2).f1) : Int) := zo
              have q881 : ((rd_T67 l0 x25_2).f1) < (l1.length : Int) := zo
              obtain ⟨ad881, e881, hx881_0⟩ := Kd.at_int HR1.out ((rd_T67 l0 x25_2).f1) p881 q881
              have hw881_0 := hx881_0
              cases e881
              replace hx881_0 := zt HB.out hx881_0
              replace p881 := eq_true p881
              replace q881 := eq_true q881
              refine start_ (n := 12) (S := fun w' => w'.cell? ⟨gb875, 0, none⟩ = some (.string ((rd_T67 l0 x25_2).f0)) ∧ w'.cell? ⟨gb875, 1, none⟩ = some (.int .i64 ((rd_T67 l0 x25_2).f1)) ∧ w'.cell? ⟨gb875, 2, none⟩ = some (.int .i64 ((rd_T67 l0 x25_2).f2)) ∧ w'.cell? ⟨gb875, 3, none⟩ = some (.int .i64 ((rd_T67 l0 x25_2).f3)) ∧ w'.cell? ⟨gb875, 4, none⟩ = some (.int .i64 ((rd_T67 l0 x25_2).f4)) ∧ w'.cell? (ad881.add (((rd_T67 l0 x25_2).f1)).toNat) = some (.int .i64 (rd l1 ((rd_T67 l0 x25_2).f1)))) (ds := []) #[false, false, false, false, false, false, false, false, false, false, false, false] (by kernel_rfl) rfl rfl ⟨(zI BK875.out 0).trans rfl, (zI BK875.out 1).trans rfl, (zI BK875.out 2).trans rfl, (zI BK875.out 3).trans rfl, (zI BK875.out 4).trans rfl, (zt HB.out hw881_0)⟩ (fun hHeld => ?_); refine with_tabW spec_RenameCode.tab8 spec_RenameCode.bits8 (fun HT_ HW_ => ?_)
              generalize w73.drew = w74 at HO_6 BK875 HB hx881_0 hHeld ⊢
              refine pure_ (i := 0) (N := some 38) (v := ?_) (a' := ?_) #[true, false, false, false, false, false, false, false, false, false, false, false] rfl rfl (any_of HT_.out (by kernel_rfl)) (fun _ _ _ h => h) (Or.inl ⟨by rfl, ?_⟩) ?_ ?_
              rotate_left
              ·intro w'
               go_simp
               with_reducible rfl
              rotate_left
              ·simp only [Act.put, z1, z2, z3, i64_w, i32_w]
               rfl
              refine pure_ (i := 2) (N := some 40) (v := ?_) (a' := ?_) #[true, false, true, false, false, false, false, false, false, false, false, false] rfl rfl (any_of HT_.out (by kernel_rfl)) (fun _ _ _ h => h) (Or.inl ⟨by rfl, ?_⟩) ?_ ?_
              rotate_left
              ·intro w'
               go_simp
               with_reducible rfl
              rotate_left
              ·simp only [Act.put, z1, z2, z3, i64_w, i32_w]
               rfl
              refine pure_ (i := 3) (N := some 41) (v := ?_) (a' := ?_) #[true, false, true, true, false, false, false, false, false, false, false, false] rfl rfl (any_of HT_.out (by kernel_rfl)) (fun _ _ _ h => h) (Or.inl ⟨by rfl, ?_⟩) ?_ ?_
              rotate_left
              ·intro w'
               go_simp
               with_reducible rfl
              rotate_left
              ·simp only [Act.put, z1, z2, z3, i64_w, i32_w]
               rfl
              refine pure_ (i := 7) (N := some 45) (v := ?_) (a' := ?_) #[true, false, true, true, false, false, false, true, false, false, false, false] rfl rfl (any_of HT_.out (by kernel_rfl)) (fun _ _ _ h => h) (Or.inl ⟨by rfl, ?_⟩) ?_ ?_
              rotate_left
              ·intro w'
               go_simp
               with_reducible rfl
              rotate_left
              ·simp only [Act.put, z1, z2, z3, i64_w, i32_w]
               rfl
              refine take_ (i := 1) (N := some 39) (v := ?_) (a' := ?_) #[true, true, true, true, false, false, false, true, false, false, false, false] rfl rfl (take_ofW HT_.out HW_.out (by kernel_rfl)) (fun _ _ _ h => h) (Or.inl ⟨by rfl, ?_⟩) hHeld ?_ ?_
              rotate_left
              ·rintro w' ⟨s0, s1, s2, s3, s4, s5⟩
               go_simp
               with_reducible rfl
              rotate_left
              ·simp only [Act.put, z1, z2, z3, i64_w, i32_w]
               rfl
              refine take_ (i := 4) (N := some 42) (v := ?_) (a' := ?_) #[true, true, true, true, true, false, false, true, false, false, false, false] rfl rfl (take_ofW HT_.out HW_.out (by kernel_rfl)) (fun _ _ _ h => h) (Or.inl ⟨by rfl, ?_⟩) hHeld ?_ ?_
              rotate_left
              ·rintro w' ⟨s0, s1, s2, s3, s4, s5⟩
               go_simp
               with_reducible rfl
              rotate_left
              ·simp only [Act.put, z1, z2, z3, i64_w, i32_w]
               rfl
              refine pure_ (i := 5) (N := some 43) (v := ?_) (a' := ?_) #[true, true, true, true, true, true, false, true, false, false, false, false] rfl rfl (any_of HT_.out (by kernel_rfl)) (fun _ _ _ h => h) (Or.inl ⟨by rfl, ?_⟩) ?_ ?_
              rotate_left
              ·intro w'
               go_simp
               with_reducible rfl
              rotate_left
              ·simp only [Act.put, z1, z2, z3, i64_w, i32_w]
               rfl
              refine take_ (i := 6) (N := some 44) (v := ?_) (a' := ?_) #[true, true, true, true, true, true, true, true, false, false, false, false] rfl rfl (take_ofW HT_.out HW_.out (by kernel_rfl)) (fun _ _ _ h => h) (Or.inl ⟨by rfl, ?_⟩) hHeld ?_ ?_
              rotate_left
              ·rintro w' ⟨s0, s1, s2, s3, s4, s5⟩
               go_simp
               with_reducible rfl
              rotate_left
              ·simp only [Act.put, z1, z2, z3, i64_w, i32_w]
               rfl
              refine take_ (i := 8) (N := some 46) (v := ?_) (a' := ?_) #[true, true, true, true, true, true, true, true, true, false, false, false] rfl rfl (take_ofW HT_.out HW_.out (by kernel_rfl)) (fun _ _ _ h => h) (Or.inl ⟨by rfl, ?_⟩) hHeld ?_ ?_
              rotate_left
              ·rintro w' ⟨s0, s1, s2, s3, s4, s5⟩
               go_simp
               with_reducible rfl
              rotate_left
              ·simp only [Act.put, z1, z2, z3, i64_w, i32_w]
               rfl
              refine pure_ (i := 9) (N := some 47) (v := ?_) (a' := ?_) #[true, true, true, true, true, true, true, true, true, true, false, false] rfl rfl (any_of HT_.out (by kernel_rfl)) (fun _ _ _ h => h) (Or.inl ⟨by rfl, ?_⟩) ?_ ?_
              rotate_left
              ·intro w'
               go_simp
               with_reducible rfl
              rotate_left
              ·simp only [Act.put, z1, z2, z3, i64_w, i32_w]
               rfl
              refine one_ (i := 10) (N := some 14) #[true, true, true, true, true, true, true, true, true, true, true, false] rfl rfl (one_of HT_.out (by kernel_rfl)) (by decide) (fun K hK => ?_)
              refine box_step ?hg (N := 14) ?hd (cs := #[.string (⟨#[]⟩ : ByteArray), .int .i64 0, .int .i64 0, .int .i64 0, .int .i64 0]) (t := 67) ?hr ?_; (case hd => rfl); (case hg => rfl); (case hr => first | (go_simp; done) | (go_simp; rfl))
              intro gb882 hg w75 hbox hb
              have n0_ := zK (Kd.R_below (Kd.R_elderB (by (with_reducible repeat (first | apply Kd.R_alloc | apply Kd.R_drewN | apply Kd.R_drew)); exact HO_6.out) gb882 (Nat.le_of_eq hg.symm)) hb)
              have n1_ := zK (zM (g := gb875) (o := .cells #[.string ((rd_T67 l0 x25_2).f0), .int .i64 ((rd_T67 l0 x25_2).f1), .int .i64 ((rd_T67 l0 x25_2).f2), .int .i64 ((rd_T67 l0 x25_2).f3), .int .i64 ((rd_T67 l0 x25_2).f4)] 67 (0, 0)) (by (with_reducible repeat (first | refine zE ?_ _ | refine zF ?_ | refine zG ?_ _)); exact BK875.out) hb)
              have n2_ := zK (zL (by repeat (first | (with_reducible first | exact HB.out | apply zA | apply zB | apply zC | refine zD ?_ GE875.out) | exact HB.out)) hb)
              have n3_ := zK (hbox)
              have n4_ := zK ((by rw [hg]; exact (zN (by repeat (first | (with_reducible first | exact HB.out | apply zA | apply zB | apply zC | refine zD ?_ GE875.out) | exact HB.out))) : w.heap.size ≤ gb882))
              have n5_ := zK ((by rw [hg]; exact (zN (by repeat (first | (with_reducible first | exact HB.out | apply zA | apply zB | apply zC | refine zD ?_ GE875.out) | exact HB.out))) : w.heap.size ≤ gb882))
              have n6_ := zK ((by rw [hg]; exact Nat.ne_of_lt (blk_lt (g := gb875) (o := .cells #[.string ((rd_T67 l0 x25_2).f0), .int .i64 ((rd_T67 l0 x25_2).f1), .int .i64 ((rd_T67 l0 x25_2).f2), .int .i64 ((rd_T67 l0 x25_2).f3), .int .i64 ((rd_T67 l0 x25_2).f4)] 67 (0, 0)) (by (with_reducible repeat (first | refine zE ?_ _ | refine zF ?_ | refine zG ?_ _)); exact BK875.out)) : gb875 ≠ gb882))
              have n7_ := zK ((by rw [hg]; exact Nat.ne_of_gt (blk_lt (g := gb875) (o := .cells #[.string ((rd_T67 l0 x25_2).f0), .int .i64 ((rd_T67 l0 x25_2).f1), .int .i64 ((rd_T67 l0 x25_2).f2), .int .i64 ((rd_T67 l0 x25_2).f3), .int .i64 ((rd_T67 l0 x25_2).f4)] 67 (0, 0)) (by (with_reducible repeat (first | refine zE ?_ _ | refine zF ?_ | refine zG ?_ _)); exact BK875.out)) : gb882 ≠ gb875))
              clear HO_6
              clear BK875
              clear HB
              have HO_6 := n0_
              have BK875 := n1_
              have HB := n2_
              have BK882 := n3_
              have GW882 := n4_
              have GE882 := n5_
              have NB875_882 := n6_
              have NB882_875 := n7_
              clear n0_ n1_ n2_ n3_ n4_ n5_ n6_ n7_
              clear hb hbox hg
              refine hK.out _ _ ⟨(zI BK875.out 0).trans rfl, (zI BK875.out 1).trans rfl, (zI BK875.out 2).trans rfl, (zI BK875.out 3).trans rfl, (zI BK875.out 4).trans rfl, (zt HB.out hw881_0 :)⟩ (fun hHeld => ?_)
              clear hK K
              refine norm_ (a' := ?_) ?_ ?_
              rotate_left
              ·show Act.put _ (some 14) _ = _
               simp only [Act.put, z1, z2, z3, i64_w, i32_w]
               rfl
              refine one_ (i := 11) (N := none) #[true, true, true, true, true, true, true, true, true, true, true, true] rfl rfl (one_of HT_.out (by kernel_rfl)) (by decide) (fun K hK => ?_)
              have hs76 : w75.cell? ⟨gb882, 0, none⟩ = some (.string (⟨#[]⟩ : ByteArray)) := (zI BK882.out 0).trans rfl
              have hfs76 := zH BK882.out 0
              have hns76_0 := NB875_882.out
              have hms76_0 := NB882_875.out
              have hs77 : w75.cell? ⟨gb882, 1, none⟩ = some (.int .i64 0) := (zI BK882.out 1).trans rfl
              have hfs77 := zH BK882.out 1
              have hns77_0 := NB875_882.out
              have hms77_0 := NB882_875.out
              have hs78 : w75.cell? ⟨gb882, 2, none⟩ = some (.int .i64 0) := (zI BK882.out 2).trans rfl
              have hfs78 := zH BK882.out 2
              have hns78_0 := NB875_882.out
              have hms78_0 := NB882_875.out
              have hs79 : w75.cell? ⟨gb882, 3, none⟩ = some (.int .i64 0) := (zI BK882.out 3).trans rfl
              have hfs79 := zH BK882.out 3
              have hns79_0 := NB875_882.out
              have hms79_0 := NB882_875.out
              have hs80 : w75.cell? ⟨gb882, 4, none⟩ = some (.int .i64 0) := (zI BK882.out 4).trans rfl
              have hfs80 := zH BK882.out 4
              have hns80_0 := NB875_882.out
              have hms80_0 := NB882_875.out
              refine skip_ (w1 := ?_) (by rfl) rfl ?_ ?_
              rotate_left
              ·go_simp
               rfl
              refine hK.out _ _ ⟨((cell_far (p := ⟨gb882, _, none⟩) NB875_882.out _).trans (((cell_far (p := ⟨gb882, _, none⟩) NB875_882.out _).trans (((cell_far (p := ⟨gb882, _, none⟩) NB875_882.out _).trans (((cell_far (p := ⟨gb882, _, none⟩) NB875_882.out _).trans (((cell_far (p := ⟨gb882, _, none⟩) NB875_882.out _).trans (hHeld.1)))))))))), ((cell_far (p := ⟨gb882, _, none⟩) NB875_882.out _).trans (((cell_far (p := ⟨gb882, _, none⟩) NB875_882.out _).trans (((cell_far (p := ⟨gb882, _, none⟩) NB875_882.out _).trans (((cell_far (p := ⟨gb882, _, none⟩) NB875_882.out _).trans (((cell_far (p := ⟨gb882, _, none⟩) NB875_882.out _).trans (hHeld.2.1)))))))))), ((cell_far (p := ⟨gb882, _, none⟩) NB875_882.out _).trans (((cell_far (p := ⟨gb882, _, none⟩) NB875_882.out _).trans (((cell_far (p := ⟨gb882, _, none⟩) NB875_882.out _).trans (((cell_far (p := ⟨gb882, _, none⟩) NB875_882.out _).trans (((cell_far (p := ⟨gb882, _, none⟩) NB875_882.out _).trans (hHeld.2.2.1)))))))))), ((cell_far (p := ⟨gb882, _, none⟩) NB875_882.out _).trans (((cell_far (p := ⟨gb882, _, none⟩) NB875_882.out _).trans (((cell_far (p := ⟨gb882, _, none⟩) NB875_882.out _).trans (((cell_far (p := ⟨gb882, _, none⟩) NB875_882.out _).trans (((cell_far (p := ⟨gb882, _, none⟩) NB875_882.out _).trans (hHeld.2.2.2.1)))))))))), ((cell_far (p := ⟨gb882, _, none⟩) NB875_882.out _).trans (((cell_far (p := ⟨gb882, _, none⟩) NB875_882.out _).trans (((cell_far (p := ⟨gb882, _, none⟩) NB875_882.out _).trans (((cell_far (p := ⟨gb882, _, none⟩) NB875_882.out _).trans (((cell_far (p := ⟨gb882, _, none⟩) NB875_882.out _).trans (hHeld.2.2.2.2.1)))))))))), ((cell_far (p := ⟨gb882, _, none⟩) (by first | exact Nat.ne_of_lt (Nat.lt_of_lt_of_le (by have := zW _ _ hw881_0; first | rwa [add_block] at this | exact this) GW882.out) | (rw [add_block]; exact Nat.ne_of_lt (Nat.lt_of_lt_of_le (by have := zW _ _ hw881_0; first | rwa [add_block] at this | exact this) GW882.out)) | (show (Addr.add _ _).block ≠ _; rw [add_block]; exact Nat.ne_of_lt (Nat.lt_of_lt_of_le (by have := zW _ _ hw881_0; first | rwa [add_block] at this | exact this) GW882.out)) | (dsimp only; exact Nat.ne_of_lt (Nat.lt_of_lt_of_le (by have := zW _ _ hw881_0; first | rwa [add_block] at this | exact this) GW882.out))) _).trans (((cell_far (p := ⟨gb882, _, none⟩) (by first | exact Nat.ne_of_lt (Nat.lt_of_lt_of_le (by have := zW _ _ hw881_0; first | rwa [add_block] at this | exact this) GW882.out) | (rw [add_block]; exact Nat.ne_of_lt (Nat.lt_of_lt_of_le (by have := zW _ _ hw881_0; first | rwa [add_block] at this | exact this) GW882.out)) | (show (Addr.add _ _).block ≠ _; rw [add_block]; exact Nat.ne_of_lt (Nat.lt_of_lt_of_le (by have := zW _ _ hw881_0; first | rwa [add_block] at this | exact this) GW882.out)) | (dsimp only; exact Nat.ne_of_lt (Nat.lt_of_lt_of_le (by have := zW _ _ hw881_0; first | rwa [add_block] at this | exact this) GW882.out))) _).trans (((cell_far (p := ⟨gb882, _, none⟩) (by first | exact Nat.ne_of_lt (Nat.lt_of_lt_of_le (by have := zW _ _ hw881_0; first | rwa [add_block] at this | exact this) GW882.out) | (rw [add_block]; exact Nat.ne_of_lt (Nat.lt_of_lt_of_le (by have := zW _ _ hw881_0; first | rwa [add_block] at this | exact this) GW882.out)) | (show (Addr.add _ _).block ≠ _; rw [add_block]; exact Nat.ne_of_lt (Nat.lt_of_lt_of_le (by have := zW _ _ hw881_0; first | rwa [add_block] at this | exact this) GW882.out)) | (dsimp only; exact Nat.ne_of_lt (Nat.lt_of_lt_of_le (by have := zW _ _ hw881_0; first | rwa [add_block] at this | exact this) GW882.out))) _).trans (((cell_far (p := ⟨gb882, _, none⟩) (by first | exact Nat.ne_of_lt (Nat.lt_of_lt_of_le (by have := zW _ _ hw881_0; first | rwa [add_block] at this | exact this) GW882.out) | (rw [add_block]; exact Nat.ne_of_lt (Nat.lt_of_lt_of_le (by have := zW _ _ hw881_0; first | rwa [add_block] at this | exact this) GW882.out)) | (show (Addr.add _ _).block ≠ _; rw [add_block]; exact Nat.ne_of_lt (Nat.lt_of_lt_of_le (by have := zW _ _ hw881_0; first | rwa [add_block] at this | exact this) GW882.out)) | (dsimp only; exact Nat.ne_of_lt (Nat.lt_of_lt_of_le (by have := zW _ _ hw881_0; first | rwa [add_block] at this | exact this) GW882.out))) _).trans (((cell_far (p := ⟨gb882, _, none⟩) (by first | exact Nat.ne_of_lt (Nat.lt_of_lt_of_le (by have := zW _ _ hw881_0; first | rwa [add_block] at this | exact this) GW882.out) | (rw [add_block]; exact Nat.ne_of_lt (Nat.lt_of_lt_of_le (by have := zW _ _ hw881_0; first | rwa [add_block] at this | exact this) GW882.out)) | (show (Addr.add _ _).block ≠ _; rw [add_block]; exact Nat.ne_of_lt (Nat.lt_of_lt_of_le (by have := zW _ _ hw881_0; first | rwa [add_block] at this | exact this) GW882.out)) | (dsimp only; exact Nat.ne_of_lt (Nat.lt_of_lt_of_le (by have := zW _ _ hw881_0; first | rwa [add_block] at this | exact this) GW882.out))) _).trans (hHeld.2.2.2.2.2))))))))))⟩ (fun hHeld => ?_)
              clear hK K
              refine done_ (done_of HT_.out (by kernel_rfl)) ?_
              have BKn : (((((w75.setCell ⟨gb882, 0, none⟩ (.string ((rd_T67 l0 x25_2).f0))).setCell ⟨gb882, 1, none⟩ (.int .i64 (rd l1 ((rd_T67 l0 x25_2).f1)))).setCell ⟨gb882, 2, none⟩ (.int .i64 0)).setCell ⟨gb882, 3, none⟩ (.int .i64 0)).setCell ⟨gb882, 4, none⟩ (.int .i64 ((rd_T67 l0 x25_2).f4))).heap[gb882]? = some (.cells #[.string ((rd_T67 l0 x25_2).f0), .int .i64 (rd l1 ((rd_T67 l0 x25_2).f1)), .int .i64 0, .int .i64 0, .int .i64 ((rd_T67 l0 x25_2).f4)] 67 (0, 0)) := by refine blk_put (cs := #[.string ((rd_T67 l0 x25_2).f0), .int .i64 (rd l1 ((rd_T67 l0 x25_2).f1)), .int .i64 0, .int .i64 0, .int .i64 0]) ?_ 4 _ rfl; refine blk_put (cs := #[.string ((rd_T67 l0 x25_2).f0), .int .i64 (rd l1 ((rd_T67 l0 x25_2).f1)), .int .i64 0, .int .i64 0, .int .i64 0]) ?_ 3 _ rfl; refine blk_put (cs := #[.string ((rd_T67 l0 x25_2).f0), .int .i64 (rd l1 ((rd_T67 l0 x25_2).f1)), .int .i64 0, .int .i64 0, .int .i64 0]) ?_ 2 _ rfl; refine blk_put (cs := #[.string ((rd_T67 l0 x25_2).f0), .int .i64 0, .int .i64 0, .int .i64 0, .int .i64 0]) ?_ 1 _ rfl; refine blk_put (cs := #[.string (⟨#[]⟩ : ByteArray), .int .i64 0, .int .i64 0, .int .i64 0, .int .i64 0]) ?_ 0 _ rfl; exact BK882.out
              have BFn : (((((w75.setCell ⟨gb882, 0, none⟩ (.string ((rd_T67 l0 x25_2).f0))).setCell ⟨gb882, 1, none⟩ (.int .i64 (rd l1 ((rd_T67 l0 x25_2).f1)))).setCell ⟨gb882, 2, none⟩ (.int .i64 0)).setCell ⟨gb882, 3, none⟩ (.int .i64 0)).setCell ⟨gb882, 4, none⟩ (.int .i64 ((rd_T67 l0 x25_2).f4))).heap[gb875]? = some (.cells #[.string ((rd_T67 l0 x25_2).f0), .int .i64 ((rd_T67 l0 x25_2).f1), .int .i64 ((rd_T67 l0 x25_2).f2), .int .i64 ((rd_T67 l0 x25_2).f3), .int .i64 ((rd_T67 l0 x25_2).f4)] 67 (0, 0)) := by refine blk_far ?_ NB875_882.out _; refine blk_far ?_ NB875_882.out _; refine blk_far ?_ NB875_882.out _; refine blk_far ?_ NB875_882.out _; refine blk_far ?_ NB875_882.out _; exact BK875.out
              have HBn : Below w.heap.size w (((((w75.setCell ⟨gb882, 0, none⟩ (.string ((rd_T67 l0 x25_2).f0))).setCell ⟨gb882, 1, none⟩ (.int .i64 (rd l1 ((rd_T67 l0 x25_2).f1)))).setCell ⟨gb882, 2, none⟩ (.int .i64 0)).setCell ⟨gb882, 3, none⟩ (.int .i64 0)).setCell ⟨gb882, 4, none⟩ (.int .i64 ((rd_T67 l0 x25_2).f4))) := by repeat (first | exact HB.out | refine zD ?_ GE882.out)
              have HOn := Kd.R_mono (ok' := fun k_ => k_ ≠ gb875 ∧ k_ ≠ gb882) (Kd.R_far (p := ⟨gb882, 4, none⟩) (Kd.R_far (p := ⟨gb882, 3, none⟩) (Kd.R_far (p := ⟨gb882, 2, none⟩) (Kd.R_far (p := ⟨gb882, 1, none⟩) (Kd.R_far (p := ⟨gb882, 0, none⟩) (Kd.R_mono HO_6.out (fun k_ hk => (⟨hk, hk.2⟩ : _ ∧ k_ ≠ gb882))) (fun _ hk => hk.2) (.string ((rd_T67 l0 x25_2).f0))) (fun _ hk => hk.2) (.int .i64 (rd l1 ((rd_T67 l0 x25_2).f1)))) (fun _ hk => hk.2) (.int .i64 0)) (fun _ hk => hk.2) (.int .i64 0)) (fun _ hk => hk.2) (.int .i64 ((rd_T67 l0 x25_2).f4))) (fun _ hk => ⟨hk.1.1, hk.1.2⟩)
              generalize (((((w75.setCell ⟨gb882, 0, none⟩ (.string ((rd_T67 l0 x25_2).f0))).setCell ⟨gb882, 1, none⟩ (.int .i64 (rd l1 ((rd_T67 l0 x25_2).f1)))).setCell ⟨gb882, 2, none⟩ (.int .i64 0)).setCell ⟨gb882, 3, none⟩ (.int .i64 0)).setCell ⟨gb882, 4, none⟩ (.int .i64 ((rd_T67 l0 x25_2).f4))) = wn at BKn BFn HBn HOn ⊢
              try clear BK875
              try clear BK882
              try clear HB
              try clear HO_6
              try clear hfs76
              try clear hfs77
              try clear hfs78
              try clear hfs79
              try clear hfs80
              try clear hms76_0
              try clear hms77_0
              try clear hms78_0
              try clear hms79_0
              try clear hms80_0
              try clear hns76_0
              try clear hns77_0
              try clear hns78_0
              try clear hns79_0
              try clear hns80_0
              try clear hs76
              try clear hs77
              try clear hs78
              try clear hs79
              try clear hs80
              have BK882 := zK BKn
              clear BKn
              have BK875 := zK BFn
              clear BFn
              have HB := zK HBn
              clear HBn
              have HO_6 := zK HOn
              clear HOn
              have hnb81 := NB882_875.out
              have hnc81 := NB875_882.out
              have hcz82_0 : wn.cell? ⟨gb882, 0, none⟩ = some (.string ((rd_T67 l0 x25_2).f0)) := (zI BK882.out 0).trans rfl
              have hcz82_1 : wn.cell? ⟨gb882, 1, none⟩ = some (.int .i64 (rd l1 ((rd_T67 l0 x25_2).f1))) := (zI BK882.out 1).trans rfl
              have hcz82_2 : wn.cell? ⟨gb882, 2, none⟩ = some (.int .i64 0) := (zI BK882.out 2).trans rfl
              have hcz82_3 : wn.cell? ⟨gb882, 3, none⟩ = some (.int .i64 0) := (zI BK882.out 3).trans rfl
              have hcz82_4 : wn.cell? ⟨gb882, 4, none⟩ = some (.int .i64 ((rd_T67 l0 x25_2).f4)) := (zI BK882.out 4).trans rfl
              have hfz82_0 := zH BK882.out 0
              have hfz82_1 := zH BK882.out 1
              have hfz82_2 := zH BK882.out 2
              have hfz82_3 := zH BK882.out 3
              have hfz82_4 := zH BK882.out 4
              try go_wp2_with (first | ((with_reducible refine gate_builtin (b := .append) (xs := #[.tmp 62, .tmp 64]) rfl ?_); at_builtin; refine Kd.R_append k67 (w0 := w) w.heap.size rfl (.tmp 62) (.tmp 64) 24 67 (.agg #[(.string ⟨#[]⟩), (.int .i64 0), (.int .i64 0), (.int .i64 0), (.int .i64 0)]) 48 rfl Try.underlying24 info67 rfl (by decide) (by omega) u6 x6_2 (⟨(rd_T67 l0 x25_2).f0, rd l1 ((rd_T67 l0 x25_2).f1), 0, 0, (rd_T67 l0 x25_2).f4⟩ : S67) [.string ((rd_T67 l0 x25_2).f0), .int .i64 (rd l1 ((rd_T67 l0 x25_2).f1)), .int .i64 0, .int .i64 0, .int .i64 ((rd_T67 l0 x25_2).f4)] (fun k_ => k_ ≠ gb875 ∧ k_ ≠ gb882) (fun _ => False) rfl (by first | (go_simp; done) | (go_simp; rfl)) ?aP (fun _ hk => hk.elim) ?aF ?aO ?aB ?aS ?aL ?_; (case aP => exact k67_mkM _ _ _ (⟨(rd_T67 l0 x25_2).f0, rd l1 ((rd_T67 l0 x25_2).f1), 0, 0, (rd_T67 l0 x25_2).f4⟩ : S67)); (case aB => exact (by repeat (first | (with_reducible first | exact HB.out | apply zA | apply zB | apply zC | refine zD ?_ GE875.out | refine zD ?_ GE882.out) | exact HB.out))); (case aF => exact (fun k_ hk => ⟨Kd.freshB (g := gb875) (o := .cells #[.string ((rd_T67 l0 x25_2).f0), .int .i64 ((rd_T67 l0 x25_2).f1), .int .i64 ((rd_T67 l0 x25_2).f2), .int .i64 ((rd_T67 l0 x25_2).f3), .int .i64 ((rd_T67 l0 x25_2).f4)] 67 (0, 0)) (by (with_reducible repeat (first | refine zE ?_ _ | refine zF ?_ | refine zG ?_ _)); exact BK875.out) k_ hk, Kd.freshB (g := gb882) (o := .cells #[.string ((rd_T67 l0 x25_2).f0), .int .i64 (rd l1 ((rd_T67 l0 x25_2).f1)), .int .i64 0, .int .i64 0, .int .i64 ((rd_T67 l0 x25_2).f4)] 67 (0, 0)) (by (with_reducible repeat (first | refine zE ?_ _ | refine zF ?_ | refine zG ?_ _)); exact BK882.out) k_ hk⟩)); (case aO => exact (by (with_reducible repeat (first | apply Kd.R_alloc | apply Kd.R_drewN | apply Kd.R_drew)); exact Kd.R_mono (Kd.R_mono HO_6.out (fun k_ hk => (⟨hk, hk.2⟩ : _ ∧ k_ ≠ gb882))) (fun _ hk => ⟨hk.1.1, hk.1.2⟩))); (case aS => exact (zN (by repeat (first | (with_reducible first | exact HB.out | apply zA | apply zB | apply zC | refine zD ?_ GE875.out | refine zD ?_ GE882.out) | exact HB.out)))); (case aL => have := LMc70.out; omega); intro v896 w83 ho hb hg hat; rw [← Ny895.out] at ho; have n0_ := zK (blk_grown (g := gb875) (o := .cells #[.string ((rd_T67 l0 x25_2).f0), .int .i64 ((rd_T67 l0 x25_2).f1), .int .i64 ((rd_T67 l0 x25_2).f2), .int .i64 ((rd_T67 l0 x25_2).f3), .int .i64 ((rd_T67 l0 x25_2).f4)] 67 (0, 0)) (by (with_reducible repeat (first | refine zE ?_ _ | refine zF ?_ | refine zG ?_ _)); exact BK875.out) hg (Kd.R_away HO_6.out (fun _ hk => hk.1))); have n1_ := zK (blk_grown (g := gb882) (o := .cells #[.string ((rd_T67 l0 x25_2).f0), .int .i64 (rd l1 ((rd_T67 l0 x25_2).f1)), .int .i64 0, .int .i64 0, .int .i64 ((rd_T67 l0 x25_2).f4)] 67 (0, 0)) (by (with_reducible repeat (first | refine zE ?_ _ | refine zF ?_ | refine zG ?_ _)); exact BK882.out) hg (Kd.R_away HO_6.out (fun _ hk => hk.2))); have n2_ := zK (hb); have n3_ := zK (ho); clear BK875; clear BK882; clear HB; clear HO_6; have BK875 := n0_; have BK882 := n1_; have HB := n2_; have HO897 := n3_; clear n0_ n1_ n2_ n3_; clear ho hb hg hat))
              go_roundg k2
              case measure => have := HJ2.out; have := HK2.out; omega
              case rel => exact ⟨(y895), (wrap64 (x25_2 + 1)), (by first | rfl | (simp; done) | (simp [*]; done)), H', ⟨by have := HJ2.out; have := HK2.out; omega⟩, ⟨by (with_reducible repeat (first | apply Kd.R_alloc | apply Kd.R_drewN | apply Kd.R_drew)); exact Kd.R_mono HO897.out (fun _ hk => trivial)⟩, ⟨by repeat (first | (with_reducible first | exact HB.out | apply zA | apply zB | apply zC | refine zD ?_ GE875.out | refine zD ?_ GE882.out) | exact HB.out)⟩⟩
             ·rw [if_neg c70] at H
              exact absurd H (by simp)
          ·rw [if_neg c15] at H
           exact absurd H (by simp)
         ·rw [if_neg c14] at H
          exact absurd H (by simp)
        ·rw [if_neg c12] at H
         exact absurd H (by simp)
       ·rw [if_neg c11] at H
        exact absurd H (by simp)
      ·rw [if_neg c10] at H
       have c10b0 : decide (x25_2 < (l0.length : Int)) = false := decide_eq_false c10
       clear c10
       simp only [Option.some.injEq, Prod.mk.injEq] at H
       obtain ⟨rfl, rfl⟩ := H
       go_wp2
       go_ret2
       exact ⟨_, by first | rfl | (simp [errW_none, errW_some] <;> rfl) | (simp [*, errW_none, errW_some] <;> rfl), by (with_reducible repeat (first | apply Kd.R_alloc | apply Kd.R_drewN | apply Kd.R_drew)); exact HO_6.out, by repeat (first | (with_reducible first | exact HB.out | apply zA | apply zB | apply zC) | exact HB.out)⟩

end Go.Proofs.Ytecmlikhmkcdpaa.F
