/- Contracts: spec_PutInput, laws_pSameExpr, spec_DrawIsExpr, spec_DrawUsesOf, impl_UsesOf, spec_UsesOf, impl_isTree_c1, slices_IndexFunc_int_int_impl_isTree_c1, slices_ContainsFunc_int_int_impl_isTree_c1. -/
import Derived.Test.YtlcplhcccgbmnaaBK
import Derived.Test.YtlcplhcccgbmnaaBLawsBig
import Derived.Test.YtlcplhcccgbmnaaBSpecL1Has
import Derived.Test.YtlcplhcccgbmnaaBSpecL1CurAnyExpr
import Derived.Test.YtlcplhcccgbmnaaBImplNodeOf
import Derived.Test.YtlcplhcccgbmnaaBSpecExMoved
namespace Go.Proofs.Ytlcplhcccgbmnaa.B
open Go.RowKit Go.Proofs.YtlcplhcccgbmnaaW.PrintWords Go.Proofs.YtlcplhcccgbmnaaW.PrintLast Go.Proofs.YtlcplhcccgbmnaaW.PrintMore
attribute [local go_sem] max2_int min2_int max_two min_two max_three min_three max_four min_four   -- for this text's walks alone
set_option linter.unusedVariables false
set_option linter.unusedSimpArgs false
attribute [local go_sem high] eqA47

/-! ### spec_PutInput: function 11 -/
mutual
def spec_PutInput.j0 : Nat → List (S47) → Int → List (S47) → Bool → Option ((List (S47)) × Bool)
 | 0, _, _, _, _ => none
 | k + 1, x0, x1, x2, x27 => if x27 = true then (some (([] : List (S47)), false)) else (spec_PutInput.l0 k x0 x1 x2 false x0 (x0.length : Int) 0)
def spec_PutInput.l0 : Nat → List (S47) → Int → List (S47) → Bool → List (S47) → Int → Int → Option ((List (S47)) × Bool)
 | 0, _, _, _, _, _, _, _ => none
 | k + 1, x0, x1, x2, x8, x28, x29, x30 => if x30 < x29 then (if 0 ≤ x30 then (if x30 < (x28.length : Int) then (if x8 = true then (spec_PutInput.l0 k x0 x1 x2 true x28 x29 (wrap64 (x30 + 1))) else (if ((rd_T47 x28 x30).f0).toList = ([105, 110] : List UInt8) then (spec_PutInput.l0 k x0 x1 x2 (((rd_T47 x28 x30).f3) == x1) x28 x29 (wrap64 (x30 + 1))) else (spec_PutInput.l0 k x0 x1 x2 false x28 x29 (wrap64 (x30 + 1))))) else (none)) else (none)) else (if x8 = true then ((some (([] : List (S47)) : List (S47))).bind fun y387 => (if y387.length + x2.length < 3518437208883 then (if 0 ≤ (x0.length : Int) then (if ((x0.length : Int) : Int).toNat ≤ 35184372088832 then (spec_PutInput.l1 k x1 x2 (y387 ++ x2) (List.replicate ((x0.length : Int) : Int).toNat 0) x0 (x0.length : Int) 0) else (none)) else (none)) else (none))) else ((some (([] : List (S47)) : List (S47))).bind fun y381 => (if y381.length + x0.length < 3518437208883 then (some ((y381 ++ x0), true)) else (none))))
def spec_PutInput.l1 : Nat → Int → List (S47) → List (S47) → List Int → List (S47) → Int → Int → Option ((List (S47)) × Bool)
 | 0, _, _, _, _, _, _, _ => none
 | k + 1, x1, x2, x11, x12, x58, x59, x60 => if x60 < x59 then (if 0 ≤ x60 then (if x60 < (x58.length : Int) then (if ((rd_T47 x58 x60).f0).toList = ([105, 110] : List UInt8) then (if ((rd_T47 x58 x60).f3) = x1 then (if x60 < (x12.length : Int) then (spec_PutInput.l1 k x1 x2 x11 (x12.set (x60 : Int).toNat (wrap64 ((x2.length : Int) - 1))) x58 x59 (wrap64 (x60 + 1))) else (none)) else (if x60 < (x12.length : Int) then ((some (x12.set (x60 : Int).toNat (x11.length : Int) : List Int)).bind fun y399 => ((spec_exMoved.f k ((rd_T47 x58 x60).f0) ((rd_T47 x58 x60).f1) ((rd_T47 x58 x60).f2) ((rd_T47 x58 x60).f3) y399).bind fun bt400 => (if x11.length < 3518437208883 then (spec_PutInput.l1 k x1 x2 (x11 ++ [(⟨bt400.1, bt400.2.1, bt400.2.2.1, bt400.2.2.2⟩ : S47)]) y399 x58 x59 (wrap64 (x60 + 1))) else (none)))) else (none))) else (if x60 < (x12.length : Int) then ((some (x12.set (x60 : Int).toNat (x11.length : Int) : List Int)).bind fun y407 => ((spec_exMoved.f k ((rd_T47 x58 x60).f0) ((rd_T47 x58 x60).f1) ((rd_T47 x58 x60).f2) ((rd_T47 x58 x60).f3) y407).bind fun bt408 => (if x11.length < 3518437208883 then (spec_PutInput.l1 k x1 x2 (x11 ++ [(⟨bt408.1, bt408.2.1, bt408.2.2.1, bt408.2.2.2⟩ : S47)]) y407 x58 x59 (wrap64 (x60 + 1))) else (none)))) else (none))) else (none)) else (none)) else (if (x11.length : Int) > 24 then (some (([] : List (S47)), false)) else (some (x11, true)))
end
def spec_PutInput.f (k : Nat) (l0 : List (S47)) (a1 : Int) (l2 : List (S47)) : Option ((List (S47)) × Bool) := (spec_exGood.f k l0).bind fun t376 => (if t376 = true then ((spec_exGood.f k l2).bind fun t377 => (if t377 = true then ((spec_l1In.f a1 0 1).bind fun t378 => (spec_PutInput.j0 k l0 a1 l2 (!t378))) else (spec_PutInput.j0 k l0 a1 l2 true))) else (spec_PutInput.j0 k l0 a1 l2 true))
theorem spec_PutInput.mono_l : ∀ k, (∀ y0 y1 y2 y3, LeO (spec_PutInput.j0 k y0 y1 y2 y3) (spec_PutInput.j0 (k + 1) y0 y1 y2 y3)) ∧ (∀ y0 y1 y2 y3 y4 y5 y6, LeO (spec_PutInput.l0 k y0 y1 y2 y3 y4 y5 y6) (spec_PutInput.l0 (k + 1) y0 y1 y2 y3 y4 y5 y6)) ∧ (∀ y0 y1 y2 y3 y4 y5 y6, LeO (spec_PutInput.l1 k y0 y1 y2 y3 y4 y5 y6) (spec_PutInput.l1 (k + 1) y0 y1 y2 y3 y4 y5 y6))
 | 0 => ⟨fun _ _ _ _ r h => by simp [spec_PutInput.j0] at h, fun _ _ _ _ _ _ _ r h => by simp [spec_PutInput.l0] at h, fun _ _ _ _ _ _ _ r h => by simp [spec_PutInput.l1] at h⟩
 | k + 1 => by
  obtain ⟨ih0, ih1, ih2⟩ := spec_PutInput.mono_l k
  refine ⟨?_, ?_, ?_⟩
  ·intro y0 y1 y2 y3
   unfold spec_PutInput.j0
   repeat' first
   | (with_reducible exact ih0 _ _ _ _)
   | (with_reducible exact ih1 _ _ _ _ _ _ _)
   | (with_reducible exact ih2 _ _ _ _ _ _ _)
   | (with_reducible exact spec_exGood.mono _ _)
   | (with_reducible exact spec_exMoved.mono _ _ _ _ _ _)
   | (with_reducible exact LeO.refl _)
   | (with_reducible exact LeO.none _)
   | (with_reducible refine LeO.ite ?_ ?_)
   | (with_reducible refine LeO.bind ?_ (fun _ => ?_))
   | exact ih0 _ _ _ _
   | exact ih1 _ _ _ _ _ _ _
   | exact ih2 _ _ _ _ _ _ _
   | exact spec_exGood.mono _ _
   | exact spec_exMoved.mono _ _ _ _ _ _
   | exact LeO.none _
   | refine LeO.ite ?_ ?_
   | refine LeO.bind ?_ (fun _ => ?_)
  ·intro y0 y1 y2 y3 y4 y5 y6
   unfold spec_PutInput.l0
   repeat' first
   | (with_reducible exact ih0 _ _ _ _)
   | (with_reducible exact ih1 _ _ _ _ _ _ _)
   | (with_reducible exact ih2 _ _ _ _ _ _ _)
   | (with_reducible exact spec_exGood.mono _ _)
   | (with_reducible exact spec_exMoved.mono _ _ _ _ _ _)
   | (with_reducible exact LeO.refl _)
   | (with_reducible exact LeO.none _)
   | (with_reducible refine LeO.ite ?_ ?_)
   | (with_reducible refine LeO.bind ?_ (fun _ => ?_))
   | exact ih0 _ _ _ _
   | exact ih1 _ _ _ _ _ _ _
   | exact ih2 _ _ _ _ _ _ _
   | exact spec_exGood.mono _ _
   | exact spec_exMoved.mono _ _ _ _ _ _
   | exact LeO.none _
   | refine LeO.ite ?_ ?_
   | refine LeO.bind ?_ (fun _ => ?_)
  ·intro y0 y1 y2 y3 y4 y5 y6
   unfold spec_PutInput.l1
   repeat' first
   | (with_reducible exact ih0 _ _ _ _)
   | (with_reducible exact ih1 _ _ _ _ _ _ _)
   | (with_reducible exact ih2 _ _ _ _ _ _ _)
   | (with_reducible exact spec_exGood.mono _ _)
   | (with_reducible exact spec_exMoved.mono _ _ _ _ _ _)
   | (with_reducible exact LeO.refl _)
   | (with_reducible exact LeO.none _)
   | (with_reducible refine LeO.ite ?_ ?_)
   | (with_reducible refine LeO.bind ?_ (fun _ => ?_))
   | exact ih0 _ _ _ _
   | exact ih1 _ _ _ _ _ _ _
   | exact ih2 _ _ _ _ _ _ _
   | exact spec_exGood.mono _ _
   | exact spec_exMoved.mono _ _ _ _ _ _
   | exact LeO.none _
   | refine LeO.ite ?_ ?_
   | refine LeO.bind ?_ (fun _ => ?_)
theorem spec_PutInput.mono : ∀ a0 a1 a2 k, LeO (spec_PutInput.f k a0 a1 a2) (spec_PutInput.f (k + 1) a0 a1 a2) := by
 intro a0 a1 a2 k
 obtain ⟨ih0, ih1, ih2⟩ := spec_PutInput.mono_l k
 unfold spec_PutInput.f
 repeat' first
   | (with_reducible exact ih0 _ _ _ _)
   | (with_reducible exact ih1 _ _ _ _ _ _ _)
   | (with_reducible exact ih2 _ _ _ _ _ _ _)
   | (with_reducible exact spec_exGood.mono _ _)
   | (with_reducible exact spec_exMoved.mono _ _ _ _ _ _)
   | (with_reducible exact LeO.refl _)
   | (with_reducible exact LeO.none _)
   | (with_reducible refine LeO.ite ?_ ?_)
   | (with_reducible refine LeO.bind ?_ (fun _ => ?_))
   | exact ih0 _ _ _ _
   | exact ih1 _ _ _ _ _ _ _
   | exact ih2 _ _ _ _ _ _ _
   | exact spec_exGood.mono _ _
   | exact spec_exMoved.mono _ _ _ _ _ _
   | exact LeO.none _
   | refine LeO.ite ?_ ?_
   | refine LeO.bind ?_ (fun _ => ?_)
set_option maxHeartbeats 8000000 in
set_option maxRecDepth 100000 in
theorem spec_PutInput.calls (k : Nat) (A0 : Option Addr) (c0 : Nat) (l0 : List (S47)) (a1 : Int) (A2 : Option Addr) (c2 : Nat) (l2 : List (S47)) (r1 : List (S47)) (r2 : Bool) (w : World) (hr0 : Kd.C k47 w A0 l0.length l0) (hc0 : l0.length ≤ c0) (hr2 : Kd.C k47 w A2 l2.length l2) (hc2 : l2.length ≤ c2) (h : spec_PutInput.f k l0 a1 l2 = some (r1, r2)) :
  Calls Try.prog 11 #[.slice A0 l0.length c0, .int .i64 a1, .slice A2 l2.length c2] w fun e w' => ∃ v0_ : Value, e = .returned (.tuple #[v0_, .bool r2]) ∧ Kd.R k47 47 w' w.heap.size (fun _ => True) v0_ r1 ∧ Below w.heap.size w w' := by
 have hu47 := Try.underlying47
 have HR0 := zK hr0
 have HC0 := zK hc0
 clear hr0 hc0
 have HR2 := zK hr2
 have HC2 := zK hc2
 clear hr2 hc2
 have HB := zK (Below.refl w.heap.size w)
 have H : ((spec_exGood.f k l0).bind fun t376 => (if t376 = true then ((spec_exGood.f k l2).bind fun t377 => (if t377 = true then ((spec_l1In.f a1 0 1).bind fun t378 => (spec_PutInput.j0 k l0 a1 l2 (!t378))) else (spec_PutInput.j0 k l0 a1 l2 true))) else (spec_PutInput.j0 k l0 a1 l2 true))) = some (r1, r2) := h
 clear h
 have HC4 := zK H
 clear H
 go_enter Try.func11, Try.ntmps11
 go_upto_region 1 with (fail)
 go_cut [27] (fun v27 wc => ∃ (kq : Nat) (x27_3 : Bool), v27 = .bool x27_3 ∧ Aside0 (spec_PutInput.j0 kq l0 a1 l2 x27_3 = some (r1, r2)) ∧ Aside0 (kq ≤ k) ∧ Aside0 (Below w.heap.size w wc))
 case first =>
  have H := HC4.out
  clear HC4
  replace H := Option.bind_eq_some_iff.mp H
  obtain ⟨t376, A50, H⟩ := H
  replace H : (if t376 = true then ((spec_exGood.f k l2).bind fun t377 => (if t377 = true then ((spec_l1In.f a1 0 1).bind fun t378 => (spec_PutInput.j0 k l0 a1 l2 (!t378))) else (spec_PutInput.j0 k l0 a1 l2 true))) else (spec_PutInput.j0 k l0 a1 l2 true)) = some (r1, r2) := H
  have A5 := zK A50
  clear A50
  by_cases c6 : t376 = true
  ·subst c6
   have H1 : ((spec_exGood.f k l2).bind fun t377 => (if t377 = true then ((spec_l1In.f a1 0 1).bind fun t378 => (spec_PutInput.j0 k l0 a1 l2 (!t378))) else (spec_PutInput.j0 k l0 a1 l2 true))) = some (r1, r2) := by rw [if_pos rfl] at H; exact H
   clear H
   have H := H1
   clear H1
   replace H := Option.bind_eq_some_iff.mp H
   obtain ⟨t377, A70, H⟩ := H
   replace H : (if t377 = true then ((spec_l1In.f a1 0 1).bind fun t378 => (spec_PutInput.j0 k l0 a1 l2 (!t378))) else (spec_PutInput.j0 k l0 a1 l2 true)) = some (r1, r2) := H
   have A7 := zK A70
   clear A70
   by_cases c8 : t377 = true
   ·subst c8
    have H1 : ((spec_l1In.f a1 0 1).bind fun t378 => (spec_PutInput.j0 k l0 a1 l2 (!t378))) = some (r1, r2) := by rw [if_pos rfl] at H; exact H
    clear H
    have H := H1
    clear H1
    replace H := Option.bind_eq_some_iff.mp H
    obtain ⟨t378, A90, H⟩ := H
    replace H : (spec_PutInput.j0 k l0 a1 l2 (!t378)) = some (r1, r2) := H
    have A9 := zK A90
    clear A90
    have H' := zK H
    clear H
    go_wp2_with (first | ((with_reducible refine gate_callee (f := 60) rfl ?_); refine goesL_ (some 16) rfl rfl Try.func60 (by kernel_rfl) rfl #[.slice A0 l0.length c0] rfl (by (try simp only [z6, z7, z8]); first | done | rfl | (simp only [z4, z5]; rfl)) ?_; (with_reducible refine (spec_exGood.calls k _ _ l0 true _ ?side1 ?side2 A5.out).mono ?_); (case side1 => repeat (first | exact (Kd.C_below HR0.out HB.out) | (with_reducible refine Kd.C_alloc ?_ _) | (with_reducible refine Kd.C_drewN ?_ _) | (with_reducible refine Kd.C_drew ?_))); (case side2 => exact HC0.out); rintro e w10 ⟨rfl, hb⟩; refine ⟨_, rfl, ?_⟩; have n0_ := zK (zL (by repeat (first | (with_reducible first | exact HB.out | apply zA | apply zB | apply zC) | exact HB.out)) hb); clear HB; have HB := n0_; clear n0_; (try clear hb); (try clear hb2); (try clear hk); (try clear hi)) | (go_at_call 60; (with_reducible refine (spec_exGood.calls k _ _ l2 true _ ?side1 ?side2 A7.out).mono ?_); (case side1 => repeat (first | exact (Kd.C_below HR2.out HB.out) | (with_reducible refine Kd.C_alloc ?_ _) | (with_reducible refine Kd.C_drewN ?_ _) | (with_reducible refine Kd.C_drew ?_))); (case side2 => exact HC2.out); rintro e w11 ⟨rfl, hb⟩; have n0_ := zK (zL (by repeat (first | (with_reducible first | exact HB.out | apply zA | apply zB | apply zC) | exact HB.out)) hb); clear HB; have HB := n0_; clear n0_; (try clear hb); (try clear hb2); (try clear hk); (try clear hi)) | (go_at_call 61; (with_reducible refine (spec_l1In.calls a1 0 1 t378 _ A9.out).mono ?_); rintro e w' ⟨rfl, ⟨nd, rfl⟩⟩))
    go_meet
    case rel => exact ⟨_, (!t378), (by first | rfl | (simp; done) | (simp [*]; done)), H', ⟨by first | omega | exact Nat.le_refl _⟩, ⟨by repeat (first | (with_reducible first | exact HB.out | apply zA | apply zB | apply zC) | exact HB.out)⟩⟩
   ·replace c8 := Bool.eq_false_iff.mpr c8
    subst c8
    have H1 : (spec_PutInput.j0 k l0 a1 l2 true) = some (r1, r2) := by rw [if_neg (show ¬ (false = true) by decide)] at H; exact H
    clear H
    have H := H1
    clear H1
    have H' := zK H
    clear H
    go_wp2_with (first | ((with_reducible refine gate_callee (f := 60) rfl ?_); refine goesL_ (some 16) rfl rfl Try.func60 (by kernel_rfl) rfl #[.slice A0 l0.length c0] rfl (by (try simp only [z6, z7, z8]); first | done | rfl | (simp only [z4, z5]; rfl)) ?_; (with_reducible refine (spec_exGood.calls k _ _ l0 true _ ?side1 ?side2 A5.out).mono ?_); (case side1 => repeat (first | exact (Kd.C_below HR0.out HB.out) | (with_reducible refine Kd.C_alloc ?_ _) | (with_reducible refine Kd.C_drewN ?_ _) | (with_reducible refine Kd.C_drew ?_))); (case side2 => exact HC0.out); rintro e w12 ⟨rfl, hb⟩; refine ⟨_, rfl, ?_⟩; have n0_ := zK (zL (by repeat (first | (with_reducible first | exact HB.out | apply zA | apply zB | apply zC) | exact HB.out)) hb); clear HB; have HB := n0_; clear n0_; (try clear hb); (try clear hb2); (try clear hk); (try clear hi)) | (go_at_call 60; (with_reducible refine (spec_exGood.calls k _ _ l2 false _ ?side1 ?side2 A7.out).mono ?_); (case side1 => repeat (first | exact (Kd.C_below HR2.out HB.out) | (with_reducible refine Kd.C_alloc ?_ _) | (with_reducible refine Kd.C_drewN ?_ _) | (with_reducible refine Kd.C_drew ?_))); (case side2 => exact HC2.out); rintro e w13 ⟨rfl, hb⟩; have n0_ := zK (zL (by repeat (first | (with_reducible first | exact HB.out | apply zA | apply zB | apply zC) | exact HB.out)) hb); clear HB; have HB := n0_; clear n0_; (try clear hb); (try clear hb2); (try clear hk); (try clear hi)))
    go_meet
    case rel => exact ⟨_, (true), (by first | rfl | (simp; done) | (simp [*]; done)), H', ⟨by first | omega | exact Nat.le_refl _⟩, ⟨by repeat (first | (with_reducible first | exact HB.out | apply zA | apply zB | apply zC) | exact HB.out)⟩⟩
  ·replace c6 := Bool.eq_false_iff.mpr c6
   subst c6
   have H1 : (spec_PutInput.j0 k l0 a1 l2 true) = some (r1, r2) := by rw [if_neg (show ¬ (false = true) by decide)] at H; exact H
   clear H
   have H := H1
   clear H1
   have H' := zK H
   clear H
   go_wp2_with (first | ((with_reducible refine gate_callee (f := 60) rfl ?_); refine goesL_ (some 16) rfl rfl Try.func60 (by kernel_rfl) rfl #[.slice A0 l0.length c0] rfl (by (try simp only [z6, z7, z8]); first | done | rfl | (simp only [z4, z5]; rfl)) ?_; (with_reducible refine (spec_exGood.calls k _ _ l0 false _ ?side1 ?side2 A5.out).mono ?_); (case side1 => repeat (first | exact (Kd.C_below HR0.out HB.out) | (with_reducible refine Kd.C_alloc ?_ _) | (with_reducible refine Kd.C_drewN ?_ _) | (with_reducible refine Kd.C_drew ?_))); (case side2 => exact HC0.out); rintro e w14 ⟨rfl, hb⟩; refine ⟨_, rfl, ?_⟩; have n0_ := zK (zL (by repeat (first | (with_reducible first | exact HB.out | apply zA | apply zB | apply zC) | exact HB.out)) hb); clear HB; have HB := n0_; clear n0_; (try clear hb); (try clear hb2); (try clear hk); (try clear hi)))
   go_meet
   case rel => exact ⟨_, (true), (by first | rfl | (simp; done) | (simp [*]; done)), H', ⟨by first | omega | exact Nat.le_refl _⟩, ⟨by repeat (first | (with_reducible first | exact HB.out | apply zA | apply zB | apply zC) | exact HB.out)⟩⟩
 case rest =>
  clear HC4
  try clear c1
  try clear c2
  try clear p2
  try clear c6
  try clear c8
  try clear c11
  obtain ⟨kq, x27_3, rfl, HA, HJ3, HB⟩ := hcut
  cases kq with
  | zero => exact absurd HA.out (by simp [spec_PutInput.j0])
  | succ kj3 =>
   have H := HA.out
   clear HA
   simp only [spec_PutInput.j0] at H
   by_cases c15 : x27_3 = true
   ·subst c15
    have H1 : (some (([] : List (S47)), false)) = some (r1, r2) := by rw [if_pos rfl] at H; exact H
    clear H
    have H := H1
    clear H1
    simp only [Option.some.injEq, Prod.mk.injEq] at H
    obtain ⟨rfl, rfl⟩ := H
    go_wp2
    go_ret2
    exact ⟨_, by first | rfl | (simp [errW_none, errW_some] <;> rfl) | (simp [*, errW_none, errW_some] <;> rfl), by first | exact Kd.R_nil _ _ _ _ _ | exact Kd.N_nil _ _ _ _ _ | exact Kd.V_nil _ _ _ _ _ | exact Kd.Q_nil _ _ _ _ _ | exact Kd.S_nil _ _ _ _ _, by repeat (first | (with_reducible first | exact HB.out | apply zA | apply zB | apply zC) | exact HB.out)⟩
   ·replace c15 := Bool.eq_false_iff.mpr c15
    subst c15
    have H1 : (spec_PutInput.l0 kj3 l0 a1 l2 false l0 (l0.length : Int) 0) = some (r1, r2) := by rw [if_neg (show ¬ (false = true) by decide)] at H; exact H
    clear H
    have H := H1
    clear H1
    have H' := zK H
    clear H
    go_wp2
    go_loopg [8, 30] kj3 (fun kq v8 v30 w' => ∃ (x8_2 : Bool) (x30_2 : Int), v8 = .bool x8_2 ∧ v30 = .int .i64 x30_2 ∧ Aside0 (spec_PutInput.l0 kq l0 a1 l2 x8_2 l0 (l0.length : Int) x30_2 = some (r1, r2)) ∧ Aside0 (kq ≤ kj3) ∧ Aside0 (Below w.heap.size w w'))
    case atStart => exact ⟨(false), (0), (by first | rfl | (simp; done) | (simp [*]; done)), (by first | rfl | (simp; done) | (simp [*]; done)), H', ⟨Nat.le_refl _⟩, ⟨by repeat (first | (with_reducible first | exact HB.out | apply zA | apply zB | apply zC) | exact HB.out)⟩⟩
    case round =>
     clear H'
     try clear c1
     try clear c2
     try clear p2
     try clear c6
     try clear c8
     try clear c11
     try clear c15
     try clear p2
     obtain ⟨x8_2, x30_2, rfl, rfl, HA, HK2, HB⟩ := hrel
     cases gk with
     | zero => exact absurd HA.out (by simp [spec_PutInput.l0])
     | succ k2 =>
      have H := HA.out
      clear HA
      simp only [spec_PutInput.l0] at H
      by_cases c16 : x30_2 < (l0.length : Int)
      ·rw [if_pos c16] at H
       have c16b0 : decide (x30_2 < (l0.length : Int)) = true := decide_eq_true c16
       clear c16
       by_cases c17 : 0 ≤ x30_2
       ·rw [if_pos c17] at H
        have c17b0 : decide (0 ≤ x30_2) = true := decide_eq_true c17
        clear c17
        by_cases c18 : x30_2 < (l0.length : Int)
        ·rw [if_pos c18] at H
         have c18b0 : decide (x30_2 < (l0.length : Int)) = true := decide_eq_true c18
         clear c18
         by_cases c19 : x8_2 = true
         ·subst c19
          have H1 : (spec_PutInput.l0 k2 l0 a1 l2 true l0 (l0.length : Int) (wrap64 (x30_2 + 1))) = some (r1, r2) := by rw [if_pos rfl] at H; exact H
          clear H
          have H := H1
          clear H1
          have H' := zK H
          clear H
          have p379 : 0 ≤ (x30_2 : Int) := zo
          have q379 : x30_2 < (l0.length : Int) := zo
          obtain ⟨ad379, e379, hx379_0, hx379_1, hx379_2, hx379_3⟩ := at_T47 HR0.out x30_2 p379 q379
          cases e379
          replace hx379_0 := zt HB.out hx379_0
          replace hx379_1 := zt HB.out hx379_1
          replace hx379_2 := zt HB.out hx379_2
          replace hx379_3 := zt HB.out hx379_3
          replace p379 := eq_true p379
          replace q379 := eq_true q379
          go_wp2_with (first | ((with_reducible refine gate_dst (N := 10) rfl ?_); refine box_event ?hg (N := 10) ?hd (cs := #[.string (⟨#[]⟩ : ByteArray), .int .i64 0, .int .i64 0, .int .i64 0]) (t := 47) ?hr ?_; (case hd => rfl); (case hg => rfl); (case hr => first | (go_simp; done) | (go_simp; rfl)); intro gb380 hg w20 hbox hb; have n0_ := zK (zL (by repeat (first | (with_reducible first | exact HB.out | apply zA | apply zB | apply zC) | exact HB.out)) hb); have n1_ := zK (hbox); have n2_ := zK ((by rw [hg]; exact (zN (by repeat (first | (with_reducible first | exact HB.out | apply zA | apply zB | apply zC) | exact HB.out))) : w.heap.size ≤ gb380)); have n3_ := zK ((by rw [hg]; exact (zN (by repeat (first | (with_reducible first | exact HB.out | apply zA | apply zB | apply zC) | exact HB.out))) : w.heap.size ≤ gb380)); clear HB; have HB := n0_; have BK380 := n1_; have GW380 := n2_; have GE380 := n3_; clear n0_ n1_ n2_ n3_; clear hb hbox hg; have hcz21_0 : w20.cell? ⟨gb380, 0, none⟩ = some (.string (⟨#[]⟩ : ByteArray)) := (zI BK380.out 0).trans rfl; have hcz21_1 : w20.cell? ⟨gb380, 1, none⟩ = some (.int .i64 0) := (zI BK380.out 1).trans rfl; have hcz21_2 : w20.cell? ⟨gb380, 2, none⟩ = some (.int .i64 0) := (zI BK380.out 2).trans rfl; have hcz21_3 : w20.cell? ⟨gb380, 3, none⟩ = some (.int .i64 0) := (zI BK380.out 3).trans rfl; have hfz21_0 := zH BK380.out 0; have hfz21_1 := zH BK380.out 1; have hfz21_2 := zH BK380.out 2; have hfz21_3 := zH BK380.out 3))
          go_roundg k2
          case measure => have := HJ3.out; have := HK2.out; omega
          case rel => exact ⟨(true), (wrap64 (x30_2 + 1)), (by first | rfl | (simp; done) | (simp [*]; done)), (by first | rfl | (simp; done) | (simp [*]; done)), H', ⟨by have := HJ3.out; have := HK2.out; omega⟩, ⟨by repeat (first | (with_reducible first | exact HB.out | apply zA | apply zB | apply zC | refine zD ?_ GE380.out) | exact HB.out)⟩⟩
         ·replace c19 := Bool.eq_false_iff.mpr c19
          subst c19
          have H1 : (if ((rd_T47 l0 x30_2).f0).toList = ([105, 110] : List UInt8) then (spec_PutInput.l0 k2 l0 a1 l2 (((rd_T47 l0 x30_2).f3) == a1) l0 (l0.length : Int) (wrap64 (x30_2 + 1))) else (spec_PutInput.l0 k2 l0 a1 l2 false l0 (l0.length : Int) (wrap64 (x30_2 + 1)))) = some (r1, r2) := by rw [if_neg (show ¬ (false = true) by decide)] at H; exact H
          clear H
          have H := H1
          clear H1
          by_cases c22 : ((rd_T47 l0 x30_2).f0).toList = ([105, 110] : List UInt8)
          ·rw [if_pos c22] at H
           have c22b0 : (((rd_T47 l0 x30_2).f0).toList == ([105, 110] : List UInt8)) = true := beq_iff_eq.mpr c22
           have c22b1 : (((rd_T47 l0 x30_2).f0).toList != ([105, 110] : List UInt8)) = false := bne_eq_false_iff_eq.mpr c22
           clear c22
           have H' := zK H
           clear H
           have p379 : 0 ≤ (x30_2 : Int) := zo
           have q379 : x30_2 < (l0.length : Int) := zo
           obtain ⟨ad379, e379, hx379_0, hx379_1, hx379_2, hx379_3⟩ := at_T47 HR0.out x30_2 p379 q379
           cases e379
           replace hx379_0 := zt HB.out hx379_0
           replace hx379_1 := zt HB.out hx379_1
           replace hx379_2 := zt HB.out hx379_2
           replace hx379_3 := zt HB.out hx379_3
           replace p379 := eq_true p379
           replace q379 := eq_true q379
           go_wp2_with (first | ((with_reducible refine gate_dst (N := 10) rfl ?_); refine box_event ?hg (N := 10) ?hd (cs := #[.string (⟨#[]⟩ : ByteArray), .int .i64 0, .int .i64 0, .int .i64 0]) (t := 47) ?hr ?_; (case hd => rfl); (case hg => rfl); (case hr => first | (go_simp; done) | (go_simp; rfl)); intro gb380 hg w23 hbox hb; have n0_ := zK (zL (by repeat (first | (with_reducible first | exact HB.out | apply zA | apply zB | apply zC) | exact HB.out)) hb); have n1_ := zK (hbox); have n2_ := zK ((by rw [hg]; exact (zN (by repeat (first | (with_reducible first | exact HB.out | apply zA | apply zB | apply zC) | exact HB.out))) : w.heap.size ≤ gb380)); have n3_ := zK ((by rw [hg]; exact (zN (by repeat (first | (with_reducible first | exact HB.out | apply zA | apply zB | apply zC) | exact HB.out))) : w.heap.size ≤ gb380)); clear HB; have HB := n0_; have BK380 := n1_; have GW380 := n2_; have GE380 := n3_; clear n0_ n1_ n2_ n3_; clear hb hbox hg; have hcz24_0 : w23.cell? ⟨gb380, 0, none⟩ = some (.string (⟨#[]⟩ : ByteArray)) := (zI BK380.out 0).trans rfl; have hcz24_1 : w23.cell? ⟨gb380, 1, none⟩ = some (.int .i64 0) := (zI BK380.out 1).trans rfl; have hcz24_2 : w23.cell? ⟨gb380, 2, none⟩ = some (.int .i64 0) := (zI BK380.out 2).trans rfl; have hcz24_3 : w23.cell? ⟨gb380, 3, none⟩ = some (.int .i64 0) := (zI BK380.out 3).trans rfl; have hfz24_0 := zH BK380.out 0; have hfz24_1 := zH BK380.out 1; have hfz24_2 := zH BK380.out 2; have hfz24_3 := zH BK380.out 3))
           go_roundg k2
           case measure => have := HJ3.out; have := HK2.out; omega
           case rel => exact ⟨((((rd_T47 l0 x30_2).f3) == a1)), (wrap64 (x30_2 + 1)), (by first | rfl | (simp; done) | (simp [*]; done)), (by first | rfl | (simp; done) | (simp [*]; done)), H', ⟨by have := HJ3.out; have := HK2.out; omega⟩, ⟨by repeat (first | (with_reducible first | exact HB.out | apply zA | apply zB | apply zC | refine zD ?_ GE380.out) | exact HB.out)⟩⟩
          ·rw [if_neg c22] at H
           have c22b0 : (((rd_T47 l0 x30_2).f0).toList == ([105, 110] : List UInt8)) = false := beq_eq_false_iff_ne.mpr c22
           have c22b1 : (((rd_T47 l0 x30_2).f0).toList != ([105, 110] : List UInt8)) = true := bne_iff_ne.mpr c22
           have H' := zK H
           clear H
           have p379 : 0 ≤ (x30_2 : Int) := zo
           have q379 : x30_2 < (l0.length : Int) := zo
           obtain ⟨ad379, e379, hx379_0, hx379_1, hx379_2, hx379_3⟩ := at_T47 HR0.out x30_2 p379 q379
           cases e379
           replace hx379_0 := zt HB.out hx379_0
           replace hx379_1 := zt HB.out hx379_1
           replace hx379_2 := zt HB.out hx379_2
           replace hx379_3 := zt HB.out hx379_3
           replace p379 := eq_true p379
           replace q379 := eq_true q379
           go_wp2_with (first | ((with_reducible refine gate_dst (N := 10) rfl ?_); refine box_event ?hg (N := 10) ?hd (cs := #[.string (⟨#[]⟩ : ByteArray), .int .i64 0, .int .i64 0, .int .i64 0]) (t := 47) ?hr ?_; (case hd => rfl); (case hg => rfl); (case hr => first | (go_simp; done) | (go_simp; rfl)); intro gb380 hg w25 hbox hb; have n0_ := zK (zL (by repeat (first | (with_reducible first | exact HB.out | apply zA | apply zB | apply zC) | exact HB.out)) hb); have n1_ := zK (hbox); have n2_ := zK ((by rw [hg]; exact (zN (by repeat (first | (with_reducible first | exact HB.out | apply zA | apply zB | apply zC) | exact HB.out))) : w.heap.size ≤ gb380)); have n3_ := zK ((by rw [hg]; exact (zN (by repeat (first | (with_reducible first | exact HB.out | apply zA | apply zB | apply zC) | exact HB.out))) : w.heap.size ≤ gb380)); clear HB; have HB := n0_; have BK380 := n1_; have GW380 := n2_; have GE380 := n3_; clear n0_ n1_ n2_ n3_; clear hb hbox hg; have hcz26_0 : w25.cell? ⟨gb380, 0, none⟩ = some (.string (⟨#[]⟩ : ByteArray)) := (zI BK380.out 0).trans rfl; have hcz26_1 : w25.cell? ⟨gb380, 1, none⟩ = some (.int .i64 0) := (zI BK380.out 1).trans rfl; have hcz26_2 : w25.cell? ⟨gb380, 2, none⟩ = some (.int .i64 0) := (zI BK380.out 2).trans rfl; have hcz26_3 : w25.cell? ⟨gb380, 3, none⟩ = some (.int .i64 0) := (zI BK380.out 3).trans rfl; have hfz26_0 := zH BK380.out 0; have hfz26_1 := zH BK380.out 1; have hfz26_2 := zH BK380.out 2; have hfz26_3 := zH BK380.out 3))
           go_roundg k2
           case measure => have := HJ3.out; have := HK2.out; omega
           case rel => exact ⟨(false), (wrap64 (x30_2 + 1)), (by first | rfl | (simp; done) | (simp [*]; done)), (by first | rfl | (simp; done) | (simp [*]; done)), H', ⟨by have := HJ3.out; have := HK2.out; omega⟩, ⟨by repeat (first | (with_reducible first | exact HB.out | apply zA | apply zB | apply zC | refine zD ?_ GE380.out) | exact HB.out)⟩⟩
        ·rw [if_neg c18] at H
         exact absurd H (by simp)
       ·rw [if_neg c17] at H
        exact absurd H (by simp)
      ·rw [if_neg c16] at H
       have c16b0 : decide (x30_2 < (l0.length : Int)) = false := decide_eq_false c16
       clear c16
       by_cases c27 : x8_2 = true
       ·subst c27
        have H1 : ((some (([] : List (S47)) : List (S47))).bind fun y387 => (if y387.length + l2.length < 3518437208883 then (if 0 ≤ (l0.length : Int) then (if ((l0.length : Int) : Int).toNat ≤ 35184372088832 then (spec_PutInput.l1 k2 a1 l2 (y387 ++ l2) (List.replicate ((l0.length : Int) : Int).toNat 0) l0 (l0.length : Int) 0) else (none)) else (none)) else (none))) = some (r1, r2) := by rw [if_pos rfl] at H; exact H
        clear H
        have H := H1
        clear H1
        obtain ⟨y387, hy387⟩ : ∃ y_ : List (S47), y_ = (([] : List (S47))) := ⟨_, rfl⟩
        replace H : (if y387.length + l2.length < 3518437208883 then (if 0 ≤ (l0.length : Int) then (if ((l0.length : Int) : Int).toNat ≤ 35184372088832 then (spec_PutInput.l1 k2 a1 l2 (y387 ++ l2) (List.replicate ((l0.length : Int) : Int).toNat 0) l0 (l0.length : Int) 0) else (none)) else (none)) else (none)) = some (r1, r2) := by first | (rw [hy387]; with_reducible exact H) | (have H2_ := (Option.bind_some _ _).symm.trans H; rw [hy387]; with_reducible exact H2_) | (have H2_ := (Option.bind_some _ _).symm.trans H; with_reducible exact H2_) | with_reducible exact H | (rw [hy387]; exact H) | exact H
        have Ny387 := zK hy387
        clear hy387
        by_cases c28 : y387.length + l2.length < 3518437208883
        ·rw [if_pos c28] at H
         have LMc28 := zK c28
         clear c28
         obtain ⟨y390, hy390⟩ : ∃ y_ : List (S47), y_ = (y387 ++ l2) := ⟨_, rfl⟩
         replace H : (if 0 ≤ (l0.length : Int) then (if ((l0.length : Int) : Int).toNat ≤ 35184372088832 then (spec_PutInput.l1 k2 a1 l2 y390 (List.replicate ((l0.length : Int) : Int).toNat 0) l0 (l0.length : Int) 0) else (none)) else (none)) = some (r1, r2) := by first | (rw [hy390]; with_reducible exact H) | (have H2_ := (Option.bind_some _ _).symm.trans H; rw [hy390]; with_reducible exact H2_) | (have H2_ := (Option.bind_some _ _).symm.trans H; with_reducible exact H2_) | with_reducible exact H | (rw [hy390]; exact H) | exact H
         have Ny390 := zK hy390
         clear hy390
         by_cases c29 : 0 ≤ (l0.length : Int)
         ·rw [if_pos c29] at H
          have c29b0 := eq_true c29
          have c29b1 : decide (0 ≤ (l0.length : Int)) = true := decide_eq_true c29
          clear c29
          by_cases c30 : ((l0.length : Int) : Int).toNat ≤ 35184372088832
          ·rw [if_pos c30] at H
           have c30b0 := eq_true c30
           have c30b1 : decide (((l0.length : Int) : Int).toNat ≤ 35184372088832) = true := decide_eq_true c30
           clear c30
           obtain ⟨y393, hy393⟩ : ∃ y_ : List Int, y_ = (List.replicate ((l0.length : Int) : Int).toNat 0) := ⟨_, rfl⟩
           replace H : (spec_PutInput.l1 k2 a1 l2 y390 y393 l0 (l0.length : Int) 0) = some (r1, r2) := by first | (rw [hy393]; with_reducible exact H) | (have H2_ := (Option.bind_some _ _).symm.trans H; rw [hy393]; with_reducible exact H2_) | (have H2_ := (Option.bind_some _ _).symm.trans H; with_reducible exact H2_) | with_reducible exact H | (rw [hy393]; exact H) | exact H
           have Ny393 := zK hy393
           clear hy393
           have H' := zK H
           clear H
           go_wp2_with (first | ((with_reducible refine gate_dst (N := 52) rfl ?_); refine Kd.R_lit k47 _ 47 ?hg (N := 52) ?hd (xs := ([] : List (S47))) (inner := []) (ok := fun _ => True) (okp := fun _ => True) ?hr ?hp (fun _ hk => hk) trivial (Below.refl _ _) (Nat.le_refl _) (by simp) ?_; (case hd => rfl); (case hg => rfl); (case hr => first | (go_simp; done) | (go_simp; rfl)); (case hp => exact (Reps.none _ _)); intro v388 w31 ho32 hb hg_ hnew_; clear hg_ hnew_; (first | rw [← Ny387.out] at ho32 | (simp only [Int.reduceToNat] at ho32; rw [← Ny387.out] at ho32)); have n0_ := zK (Kd.R_lower ho32 (zN (by repeat (first | (with_reducible first | exact HB.out | apply zA | apply zB | apply zC) | exact HB.out)))); have n1_ := zK (zL (by repeat (first | (with_reducible first | exact HB.out | apply zA | apply zB | apply zC) | exact HB.out)) hb); clear HB; have HO389 := n0_; have HB := n1_; clear n0_ n1_; clear hb ho32) | ((with_reducible refine gate_builtin (b := .append) (xs := #[.tmp 52, .tmp 53]) rfl ?_); at_builtin; refine Kd.R_append_rows k47 (w0 := w) w.heap.size rfl (.tmp 52) (.tmp 53) 24 47 (.agg #[(.string ⟨#[]⟩), (.int .i64 0), (.int .i64 0), (.int .i64 0)]) 40 rfl Try.underlying24 info47 rfl (by decide) (by omega) v388 y387 l2 _ _ _ (fun _ => True) (fun _ => False) rfl rfl ?aO ?aR (fun _ _ h => h) (fun _ h => h.elim) ?aF ?aB ?aS ?aL ?_; (case aR => repeat (first | exact (Kd.C_below HR2.out HB.out) | (with_reducible refine Kd.C_alloc ?_ _) | (with_reducible refine Kd.C_drewN ?_ _) | (with_reducible refine Kd.C_drew ?_))); (case aB => exact (by repeat (first | (with_reducible first | exact HB.out | apply zA | apply zB | apply zC) | exact HB.out))); (case aF => exact (fun _ _ => trivial)); (case aO => exact (by (with_reducible repeat (first | apply Kd.R_alloc | apply Kd.R_drewN | apply Kd.R_drew)); exact HO389.out)); (case aS => exact (zN (by repeat (first | (with_reducible first | exact HB.out | apply zA | apply zB | apply zC) | exact HB.out)))); (case aL => have := LMc28.out; omega); intro v391 w33 ho hb hg hat; rw [← Ny390.out] at ho; have n0_ := zK (hb); have n1_ := zK (ho); clear HB; clear HO389; have HB := n0_; have HO392 := n1_; clear n0_ n1_; clear ho hb hg hat) | ((with_reducible refine gate_dst (N := 57) rfl ?_); refine Kd.R_make (Kd.int .i64) _ 3 rfl (N := 57) rfl 31 _ _ rfl (l0.length : Int) rfl rfl Try.underlying31 (.int .i64 0) 8 info3 rfl (by decide) (by omega) 0 (ok := fun _ => True) (okp := fun _ => True) rfl (fun _ hk => hk) trivial (zo) (Nat.le_trans (Nat.mul_le_mul_right _ (zo : (l0.length : Int).toNat ≤ 35184372088832)) (by omega)) (Below.refl _ _) (Nat.le_refl _) ?_; intro v394 w34 ho35 hb hg_ hnew_; clear hg_ hnew_; (first | rw [← Ny393.out] at ho35 | (simp only [Int.reduceToNat] at ho35; rw [← Ny393.out] at ho35)); have n0_ := zK (Kd.R_below (by (with_reducible repeat (first | apply Kd.R_alloc | apply Kd.R_drewN | apply Kd.R_drew)); exact HO392.out) hb); have n1_ := zK (Kd.R_lower ho35 (zN (by repeat (first | (with_reducible first | exact HB.out | apply zA | apply zB | apply zC) | exact HB.out)))); have n2_ := zK (zL (by repeat (first | (with_reducible first | exact HB.out | apply zA | apply zB | apply zC) | exact HB.out)) hb); clear HO392; clear HB; have HO392 := n0_; have HO395 := n1_; have HB := n2_; clear n0_ n1_ n2_; clear hb ho35))
           go_loopg [11, 60] k2 (fun kq v11 v60 w' => ∃ (x11_3 : List (S47)) (x12_3 : List Int) (x60_3 : Int), v60 = .int .i64 x60_3 ∧ Aside0 (spec_PutInput.l1 kq a1 l2 x11_3 x12_3 l0 (l0.length : Int) x60_3 = some (r1, r2)) ∧ Aside0 (kq ≤ k2) ∧ Aside0 (Kd.R k47 47 w' w.heap.size (fun _ => True) v11 x11_3) ∧ Aside0 (Kd.R (Kd.int .i64) 3 w' w.heap.size (fun _ => True) v394 x12_3) ∧ Aside0 (Below w.heap.size w w'))
           case atStart => exact ⟨(y390), (y393), (0), (by first | rfl | (simp; done) | (simp [*]; done)), H', ⟨Nat.le_refl _⟩, ⟨by (with_reducible repeat (first | apply Kd.R_alloc | apply Kd.R_drewN | apply Kd.R_drew)); exact HO392.out⟩, ⟨by (with_reducible repeat (first | apply Kd.R_alloc | apply Kd.R_drewN | apply Kd.R_drew)); exact HO395.out⟩, ⟨by repeat (first | (with_reducible first | exact HB.out | apply zA | apply zB | apply zC) | exact HB.out)⟩⟩
           case round =>
            clear H'
            try clear c1
            try clear c2
            try clear p2
            try clear c3
            try clear p3
            try clear q3
            try clear hx3
            try clear c6
            try clear p6
            try clear c8
            try clear c11
            try clear c15
            try clear c16
            try clear c16b0
            try clear c17
            try clear c17b0
            try clear c18
            try clear c18b0
            try clear c19
            try clear c22
            try clear c22b0
            try clear c22b1
            try clear c27
            try clear c28
            try clear c29
            try clear c29b0
            try clear c29b1
            try clear c30
            try clear c30b0
            try clear c30b1
            try clear hcz21_0
            try clear hcz21_1
            try clear hcz21_2
            try clear hcz21_3
            try clear hcz24_0
            try clear hcz24_1
            try clear hcz24_2
            try clear hcz24_3
            try clear hcz26_0
            try clear hcz26_1
            try clear hcz26_2
            try clear hcz26_3
            try clear hfz21_0
            try clear hfz21_1
            try clear hfz21_2
            try clear hfz21_3
            try clear hfz24_0
            try clear hfz24_1
            try clear hfz24_2
            try clear hfz24_3
            try clear hfz26_0
            try clear hfz26_1
            try clear hfz26_2
            try clear hfz26_3
            try clear hx379_0
            try clear hx379_1
            try clear hx379_2
            try clear hx379_3
            try clear p2
            try clear p379
            try clear q379
            obtain ⟨x11_3, x12_3, x60_3, rfl, HA, HK3, HO_11, HO_12, HB⟩ := hrel
            cases gk with
            | zero => exact absurd HA.out (by simp [spec_PutInput.l1])
            | succ k3 =>
             have H := HA.out
             clear HA
             simp only [spec_PutInput.l1] at H
             by_cases c36 : x60_3 < (l0.length : Int)
             ·rw [if_pos c36] at H
              have c36b0 : decide (x60_3 < (l0.length : Int)) = true := decide_eq_true c36
              clear c36
              by_cases c37 : 0 ≤ x60_3
              ·rw [if_pos c37] at H
               have c37b0 : decide (0 ≤ x60_3) = true := decide_eq_true c37
               clear c37
               by_cases c38 : x60_3 < (l0.length : Int)
               ·rw [if_pos c38] at H
                have c38b0 : decide (x60_3 < (l0.length : Int)) = true := decide_eq_true c38
                clear c38
                by_cases c39 : ((rd_T47 l0 x60_3).f0).toList = ([105, 110] : List UInt8)
                ·rw [if_pos c39] at H
                 have c39b0 : (((rd_T47 l0 x60_3).f0).toList == ([105, 110] : List UInt8)) = true := beq_iff_eq.mpr c39
                 have c39b1 : (((rd_T47 l0 x60_3).f0).toList != ([105, 110] : List UInt8)) = false := bne_eq_false_iff_eq.mpr c39
                 clear c39
                 by_cases c40 : ((rd_T47 l0 x60_3).f3) = a1
                 ·rw [if_pos c40] at H
                  have c40b0 : (((rd_T47 l0 x60_3).f3) == a1) = true := beq_iff_eq.mpr c40
                  have c40b1 : (((rd_T47 l0 x60_3).f3) != a1) = false := bne_eq_false_iff_eq.mpr c40
                  clear c40
                  by_cases c41 : x60_3 < (x12_3.length : Int)
                  ·rw [if_pos c41] at H
                   have c41b0 : decide (x60_3 < (x12_3.length : Int)) = true := decide_eq_true c41
                   clear c41
                   obtain ⟨y398, hy398⟩ : ∃ y_ : List Int, y_ = (x12_3.set (x60_3 : Int).toNat (wrap64 ((l2.length : Int) - 1))) := ⟨_, rfl⟩
                   replace H : (spec_PutInput.l1 k3 a1 l2 x11_3 y398 l0 (l0.length : Int) (wrap64 (x60_3 + 1))) = some (r1, r2) := by first | (rw [hy398]; with_reducible exact H) | (have H2_ := (Option.bind_some _ _).symm.trans H; rw [hy398]; with_reducible exact H2_) | (have H2_ := (Option.bind_some _ _).symm.trans H; with_reducible exact H2_) | with_reducible exact H | (rw [hy398]; exact H) | exact H
                   have Ny398 := zK hy398
                   clear hy398
                   have H' := zK H
                   clear H
                   have p396 : 0 ≤ (x60_3 : Int) := zo
                   have q396 : x60_3 < (l0.length : Int) := zo
                   obtain ⟨ad396, e396, hx396_0, hx396_1, hx396_2, hx396_3⟩ := at_T47 HR0.out x60_3 p396 q396
                   cases e396
                   replace hx396_0 := zt HB.out hx396_0
                   replace hx396_1 := zt HB.out hx396_1
                   replace hx396_2 := zt HB.out hx396_2
                   replace hx396_3 := zt HB.out hx396_3
                   replace p396 := eq_true p396
                   replace q396 := eq_true q396
                   go_wp2_with (first | ((with_reducible refine gate_dst (N := 14) rfl ?_); refine box_event ?hg (N := 14) ?hd (cs := #[.string (⟨#[]⟩ : ByteArray), .int .i64 0, .int .i64 0, .int .i64 0]) (t := 47) ?hr ?_; (case hd => rfl); (case hg => rfl); (case hr => first | (go_simp; done) | (go_simp; rfl)); intro gb397 hg w43 hbox hb; have n0_ := zK (Kd.R_below (Kd.R_elderB (by (with_reducible repeat (first | apply Kd.R_alloc | apply Kd.R_drewN | apply Kd.R_drew)); exact HO_11.out) gb397 (Nat.le_of_eq hg.symm)) hb); have n1_ := zK (Kd.R_below (by (with_reducible repeat (first | apply Kd.R_alloc | apply Kd.R_drewN | apply Kd.R_drew)); exact HO_12.out) hb); have n2_ := zK (zL (by repeat (first | (with_reducible first | exact HB.out | apply zA | apply zB | apply zC) | exact HB.out)) hb); have n3_ := zK (hbox); have n4_ := zK ((by rw [hg]; exact (zN (by repeat (first | (with_reducible first | exact HB.out | apply zA | apply zB | apply zC) | exact HB.out))) : w.heap.size ≤ gb397)); have n5_ := zK ((by rw [hg]; exact (zN (by repeat (first | (with_reducible first | exact HB.out | apply zA | apply zB | apply zC) | exact HB.out))) : w.heap.size ≤ gb397)); clear HO_11; clear HO_12; clear HB; have HO_11 := n0_; have HO_12 := n1_; have HB := n2_; have BK397 := n3_; have GW397 := n4_; have GE397 := n5_; clear n0_ n1_ n2_ n3_ n4_ n5_; clear hb hbox hg; have hcz44_0 : w43.cell? ⟨gb397, 0, none⟩ = some (.string (⟨#[]⟩ : ByteArray)) := (zI BK397.out 0).trans rfl; have hcz44_1 : w43.cell? ⟨gb397, 1, none⟩ = some (.int .i64 0) := (zI BK397.out 1).trans rfl; have hcz44_2 : w43.cell? ⟨gb397, 2, none⟩ = some (.int .i64 0) := (zI BK397.out 2).trans rfl; have hcz44_3 : w43.cell? ⟨gb397, 3, none⟩ = some (.int .i64 0) := (zI BK397.out 3).trans rfl; have hfz44_0 := zH BK397.out 0; have hfz44_1 := zH BK397.out 1; have hfz44_2 := zH BK397.out 2; have hfz44_3 := zH BK397.out 3) | ((with_reducible refine gate_store (t := 47) (p := 14) rfl ?_); refine store_event (t := 47) (p := 14) (v := ?vo_w45) (w1 := ((((w43.setCell ⟨gb397, 0, none⟩ (.string ((rd_T47 l0 x60_3).f0))).setCell ⟨gb397, 1, none⟩ (.int .i64 ((rd_T47 l0 x60_3).f1))).setCell ⟨gb397, 2, none⟩ (.int .i64 ((rd_T47 l0 x60_3).f2))).setCell ⟨gb397, 3, none⟩ (.int .i64 ((rd_T47 l0 x60_3).f3)))) ?hg ?ho ?hn ?hr ?_; (case ho => rfl); (case hg => rfl); (case hn => rfl); (case hr => first | (go_simp; done) | (go_simp; rfl)); intro w45 hw; have n0_ : Aside0 (Kd.R k47 47 w45 w.heap.size (fun k_ => k_ ≠ gb397) u11 x11_3) := ⟨(by rw [hw]; exact (by (with_reducible repeat (first | apply Kd.R_alloc | apply Kd.R_drewN | apply Kd.R_drew)); exact Kd.R_mono (Kd.R_far (p := ⟨gb397, 3, none⟩) (Kd.R_far (p := ⟨gb397, 2, none⟩) (Kd.R_far (p := ⟨gb397, 1, none⟩) (Kd.R_far (p := ⟨gb397, 0, none⟩) (Kd.R_mono HO_11.out (fun k_ hk => (⟨hk, hk.2⟩ : _ ∧ k_ ≠ gb397))) (fun _ hk => hk.2) (.string ((rd_T47 l0 x60_3).f0))) (fun _ hk => hk.2) (.int .i64 ((rd_T47 l0 x60_3).f1))) (fun _ hk => hk.2) (.int .i64 ((rd_T47 l0 x60_3).f2))) (fun _ hk => hk.2) (.int .i64 ((rd_T47 l0 x60_3).f3))) (fun _ hk => hk.1.2)))⟩; have n1_ : Aside0 (Kd.R (Kd.int .i64) 3 w45 w.heap.size (fun _ => True) v394 x12_3) := ⟨(by rw [hw]; exact (by (with_reducible repeat (first | apply Kd.R_alloc | apply Kd.R_drewN | apply Kd.R_drew)); exact Kd.R_mono (Kd.R_far (p := ⟨gb397, 3, none⟩) (Kd.R_far (p := ⟨gb397, 2, none⟩) (Kd.R_far (p := ⟨gb397, 1, none⟩) (Kd.R_far (p := ⟨gb397, 0, none⟩) (Kd.R_types HO_12.out BK397.out (by decide)) (fun _ hk => hk.2) (.string ((rd_T47 l0 x60_3).f0))) (fun _ hk => hk.2) (.int .i64 ((rd_T47 l0 x60_3).f1))) (fun _ hk => hk.2) (.int .i64 ((rd_T47 l0 x60_3).f2))) (fun _ hk => hk.2) (.int .i64 ((rd_T47 l0 x60_3).f3))) (fun _ hk => trivial)))⟩; have n2_ : Aside0 (w45.heap[gb397]? = some (.cells #[.string ((rd_T47 l0 x60_3).f0), .int .i64 ((rd_T47 l0 x60_3).f1), .int .i64 ((rd_T47 l0 x60_3).f2), .int .i64 ((rd_T47 l0 x60_3).f3)] 47 (0, 0))) := ⟨(by rw [hw]; exact (by (with_reducible repeat (first | refine zE ?_ _ | refine zF ?_ | refine zG ?_ _)); refine blk_put (cs := #[.string ((rd_T47 l0 x60_3).f0), .int .i64 ((rd_T47 l0 x60_3).f1), .int .i64 ((rd_T47 l0 x60_3).f2), .int .i64 0]) ?_ 3 _ rfl; (with_reducible repeat (first | refine zE ?_ _ | refine zF ?_ | refine zG ?_ _)); refine blk_put (cs := #[.string ((rd_T47 l0 x60_3).f0), .int .i64 ((rd_T47 l0 x60_3).f1), .int .i64 0, .int .i64 0]) ?_ 2 _ rfl; (with_reducible repeat (first | refine zE ?_ _ | refine zF ?_ | refine zG ?_ _)); refine blk_put (cs := #[.string ((rd_T47 l0 x60_3).f0), .int .i64 0, .int .i64 0, .int .i64 0]) ?_ 1 _ rfl; (with_reducible repeat (first | refine zE ?_ _ | refine zF ?_ | refine zG ?_ _)); refine blk_put (cs := #[.string (⟨#[]⟩ : ByteArray), .int .i64 0, .int .i64 0, .int .i64 0]) ?_ 0 _ rfl; (with_reducible repeat (first | refine zE ?_ _ | refine zF ?_ | refine zG ?_ _)); exact BK397.out))⟩; have n3_ : Aside0 (Below w.heap.size w w45) := ⟨(by rw [hw]; exact (by repeat (first | (with_reducible first | exact HB.out | apply zA | apply zB | apply zC | refine zD ?_ GE397.out) | exact HB.out)))⟩; clear hw; clear HO_11; clear HO_12; clear BK397; clear HB; have HO_11 := n0_; have HO_12 := n1_; have BK397 := n2_; have HB := n3_; clear n0_ n1_ n2_ n3_; have hcz46_0 : w45.cell? ⟨gb397, 0, none⟩ = some (.string ((rd_T47 l0 x60_3).f0)) := (zI BK397.out 0).trans rfl; have hcz46_1 : w45.cell? ⟨gb397, 1, none⟩ = some (.int .i64 ((rd_T47 l0 x60_3).f1)) := (zI BK397.out 1).trans rfl; have hcz46_2 : w45.cell? ⟨gb397, 2, none⟩ = some (.int .i64 ((rd_T47 l0 x60_3).f2)) := (zI BK397.out 2).trans rfl; have hcz46_3 : w45.cell? ⟨gb397, 3, none⟩ = some (.int .i64 ((rd_T47 l0 x60_3).f3)) := (zI BK397.out 3).trans rfl; have hfz46_0 := zH BK397.out 0; have hfz46_1 := zH BK397.out 1; have hfz46_2 := zH BK397.out 2; have hfz46_3 := zH BK397.out 3; have p42 : 0 ≤ (x60_3 : Int) := zo; have q42 : (x60_3 : Int) < ((x12_3.length : Int) : Int) := zo; obtain ⟨go42, co42, eo42, gb42, gl42, cl42, HG42⟩ := Kd.R_form HO_12.out (by omega); (first | cases eo42 | (injection eo42 with ea_ en_ ec_; (first | subst ea_ | (injection ea_ with ea_; subst ea_)); subst ec_; clear en_)); have GB42 := zK gb42; have GG42 := zK HG42; clear gb42 gl42 HG42; obtain ⟨hx42_0, hf42_0⟩ := Kd.R_celln 0 HO_12.out (x60_3 : Int) p42 q42; replace p42 := eq_true p42; replace q42 := eq_true q42; obtain ⟨hy47_, hz47_⟩ := Kd.R_celln 0 HO_12.out (x60_3 : Int) (zo) (zo); have HP47 := Kd.R_putg HO_12.out (x60_3 : Int) (wrap64 ((l2.length : Int) - 1))) | ((with_reducible refine gate_store (t := 3) (p := 79) rfl ?_); refine store_event (t := 3) (p := 79) (v := ?vo_w48) (w1 := (w45.setCell ⟨go42, (x60_3 : Int).toNat, none⟩ (.int .i64 (wrap64 ((l2.length : Int) - 1))))) ?hg ?ho ?hn ?hr ?_; (case ho => rfl); (case hg => rfl); (case hn => rfl); (case hr => first | (go_simp; done) | (go_simp; rfl)); intro w48 hw; have hg : w45.grownBy w48 (some go42) := (by rw [hw]; exact HP47.2); have hp_ : Kd.R (Kd.int .i64) 3 w48 w.heap.size (fun _ => True) (.slice (some ⟨go42, 0, none⟩) x12_3.length co42) y398 := (by rw [hw, Ny398.out]; exact HP47.1); clear HP47; have n0_ := zK (Kd.R_over' (v := (.slice (some ⟨go42, 0, none⟩) x12_3.length co42)) (by (with_reducible repeat (first | apply Kd.R_alloc | apply Kd.R_drewN | apply Kd.R_drew)); exact HO_11.out) (Kd.R_typed HO_12.out) (by decide) hg); have n1_ := zK (hp_); have n2_ := zK (blk_grown (g := gb397) (o := .cells #[.string ((rd_T47 l0 x60_3).f0), .int .i64 ((rd_T47 l0 x60_3).f1), .int .i64 ((rd_T47 l0 x60_3).f2), .int .i64 ((rd_T47 l0 x60_3).f3)] 47 (0, 0)) (by (with_reducible repeat (first | refine zE ?_ _ | refine zF ?_ | refine zG ?_ _)); exact BK397.out) hg (Kd.R_ne HO_12.out BK397.out (by decide))); have n3_ := zK ((by rw [hw]; exact zD (HB.out) GB42.out : Below w.heap.size w w48)); clear HO_11; clear HO_12; clear BK397; clear HB; have HO_11 := n0_; have HO_12 := n1_; have BK397 := n2_; have HB := n3_; clear n0_ n1_ n2_ n3_; clear hg hw hp_))
                   go_roundg k3
                   case measure => have := HJ3.out; have := HK2.out; have := HK3.out; omega
                   case rel => exact ⟨(x11_3), (y398), (wrap64 (x60_3 + 1)), (by first | rfl | (simp; done) | (simp [*]; done)), H', ⟨by have := HJ3.out; have := HK2.out; have := HK3.out; omega⟩, ⟨by (with_reducible repeat (first | apply Kd.R_alloc | apply Kd.R_drewN | apply Kd.R_drew)); exact Kd.R_mono HO_11.out (fun _ hk => trivial)⟩, ⟨by (with_reducible repeat (first | apply Kd.R_alloc | apply Kd.R_drewN | apply Kd.R_drew)); exact HO_12.out⟩, ⟨by repeat (first | (with_reducible first | exact HB.out | apply zA | apply zB | apply zC | refine zD ?_ GE397.out) | exact HB.out)⟩⟩
                  ·rw [if_neg c41] at H
                   exact absurd H (by simp)
                 ·rw [if_neg c40] at H
                  have c40b0 : (((rd_T47 l0 x60_3).f3) == a1) = false := beq_eq_false_iff_ne.mpr c40
                  have c40b1 : (((rd_T47 l0 x60_3).f3) != a1) = true := bne_iff_ne.mpr c40
                  by_cases c49 : x60_3 < (x12_3.length : Int)
                  ·rw [if_pos c49] at H
                   have c49b0 : decide (x60_3 < (x12_3.length : Int)) = true := decide_eq_true c49
                   clear c49
                   obtain ⟨y399, hy399⟩ : ∃ y_ : List Int, y_ = (x12_3.set (x60_3 : Int).toNat (x11_3.length : Int)) := ⟨_, rfl⟩
                   replace H : ((spec_exMoved.f k3 ((rd_T47 l0 x60_3).f0) ((rd_T47 l0 x60_3).f1) ((rd_T47 l0 x60_3).f2) ((rd_T47 l0 x60_3).f3) y399).bind fun bt400 => (if x11_3.length < 3518437208883 then (spec_PutInput.l1 k3 a1 l2 (x11_3 ++ [(⟨bt400.1, bt400.2.1, bt400.2.2.1, bt400.2.2.2⟩ : S47)]) y399 l0 (l0.length : Int) (wrap64 (x60_3 + 1))) else (none))) = some (r1, r2) := by first | (rw [hy399]; with_reducible exact H) | (have H2_ := (Option.bind_some _ _).symm.trans H; rw [hy399]; with_reducible exact H2_) | (have H2_ := (Option.bind_some _ _).symm.trans H; with_reducible exact H2_) | with_reducible exact H | (rw [hy399]; exact H) | exact H
                   have Ny399 := zK hy399
                   clear hy399
                   replace H := Option.bind_eq_some_iff.mp H
                   obtain ⟨⟨t400, t401, t402, t403⟩, A510, H⟩ := H
                   replace H : (if x11_3.length < 3518437208883 then (spec_PutInput.l1 k3 a1 l2 (x11_3 ++ [(⟨t400, t401, t402, t403⟩ : S47)]) y399 l0 (l0.length : Int) (wrap64 (x60_3 + 1))) else (none)) = some (r1, r2) := H
                   have A51 := zK A510
                   clear A510
                   by_cases c52 : x11_3.length < 3518437208883
                   ·rw [if_pos c52] at H
                    have LMc52 := zK c52
                    clear c52
                    obtain ⟨y404, hy404⟩ : ∃ y_ : List (S47), y_ = (x11_3 ++ [(⟨t400, t401, t402, t403⟩ : S47)]) := ⟨_, rfl⟩
                    replace H : (spec_PutInput.l1 k3 a1 l2 y404 y399 l0 (l0.length : Int) (wrap64 (x60_3 + 1))) = some (r1, r2) := by first | (rw [hy404]; with_reducible exact H) | (have H2_ := (Option.bind_some _ _).symm.trans H; rw [hy404]; with_reducible exact H2_) | (have H2_ := (Option.bind_some _ _).symm.trans H; with_reducible exact H2_) | with_reducible exact H | (rw [hy404]; exact H) | exact H
                    have Ny404 := zK hy404
                    clear hy404
                    have H' := zK H
                    clear H
                    have p396 : 0 ≤ (x60_3 : Int) := zo
                    have q396 : x60_3 < (l0.length : Int) := zo
                    obtain ⟨ad396, e396, hx396_0, hx396_1, hx396_2, hx396_3⟩ := at_T47 HR0.out x60_3 p396 q396
                    cases e396
                    replace hx396_0 := zt HB.out hx396_0
                    replace hx396_1 := zt HB.out hx396_1
                    replace hx396_2 := zt HB.out hx396_2
                    replace hx396_3 := zt HB.out hx396_3
                    replace p396 := eq_true p396
                    replace q396 := eq_true q396
                    go_wp2_with (first | ((with_reducible refine gate_dst (N := 14) rfl ?_); refine box_event ?hg (N := 14) ?hd (cs := #[.string (⟨#[]⟩ : ByteArray), .int .i64 0, .int .i64 0, .int .i64 0]) (t := 47) ?hr ?_; (case hd => rfl); (case hg => rfl); (case hr => first | (go_simp; done) | (go_simp; rfl)); intro gb397 hg w53 hbox hb; have n0_ := zK (Kd.R_below (Kd.R_elderB (by (with_reducible repeat (first | apply Kd.R_alloc | apply Kd.R_drewN | apply Kd.R_drew)); exact HO_11.out) gb397 (Nat.le_of_eq hg.symm)) hb); have n1_ := zK (Kd.R_below (by (with_reducible repeat (first | apply Kd.R_alloc | apply Kd.R_drewN | apply Kd.R_drew)); exact HO_12.out) hb); have n2_ := zK (zL (by repeat (first | (with_reducible first | exact HB.out | apply zA | apply zB | apply zC) | exact HB.out)) hb); have n3_ := zK (hbox); have n4_ := zK ((by rw [hg]; exact (zN (by repeat (first | (with_reducible first | exact HB.out | apply zA | apply zB | apply zC) | exact HB.out))) : w.heap.size ≤ gb397)); have n5_ := zK ((by rw [hg]; exact (zN (by repeat (first | (with_reducible first | exact HB.out | apply zA | apply zB | apply zC) | exact HB.out))) : w.heap.size ≤ gb397)); clear HO_11; clear HO_12; clear HB; have HO_11 := n0_; have HO_12 := n1_; have HB := n2_; have BK397 := n3_; have GW397 := n4_; have GE397 := n5_; clear n0_ n1_ n2_ n3_ n4_ n5_; clear hb hbox hg; have hcz54_0 : w53.cell? ⟨gb397, 0, none⟩ = some (.string (⟨#[]⟩ : ByteArray)) := (zI BK397.out 0).trans rfl; have hcz54_1 : w53.cell? ⟨gb397, 1, none⟩ = some (.int .i64 0) := (zI BK397.out 1).trans rfl; have hcz54_2 : w53.cell? ⟨gb397, 2, none⟩ = some (.int .i64 0) := (zI BK397.out 2).trans rfl; have hcz54_3 : w53.cell? ⟨gb397, 3, none⟩ = some (.int .i64 0) := (zI BK397.out 3).trans rfl; have hfz54_0 := zH BK397.out 0; have hfz54_1 := zH BK397.out 1; have hfz54_2 := zH BK397.out 2; have hfz54_3 := zH BK397.out 3) | ((with_reducible refine gate_store (t := 47) (p := 14) rfl ?_); refine store_event (t := 47) (p := 14) (v := ?vo_w55) (w1 := ((((w53.setCell ⟨gb397, 0, none⟩ (.string ((rd_T47 l0 x60_3).f0))).setCell ⟨gb397, 1, none⟩ (.int .i64 ((rd_T47 l0 x60_3).f1))).setCell ⟨gb397, 2, none⟩ (.int .i64 ((rd_T47 l0 x60_3).f2))).setCell ⟨gb397, 3, none⟩ (.int .i64 ((rd_T47 l0 x60_3).f3)))) ?hg ?ho ?hn ?hr ?_; (case ho => rfl); (case hg => rfl); (case hn => rfl); (case hr => first | (go_simp; done) | (go_simp; rfl)); intro w55 hw; have n0_ : Aside0 (Kd.R k47 47 w55 w.heap.size (fun k_ => k_ ≠ gb397) u11 x11_3) := ⟨(by rw [hw]; exact (by (with_reducible repeat (first | apply Kd.R_alloc | apply Kd.R_drewN | apply Kd.R_drew)); exact Kd.R_mono (Kd.R_far (p := ⟨gb397, 3, none⟩) (Kd.R_far (p := ⟨gb397, 2, none⟩) (Kd.R_far (p := ⟨gb397, 1, none⟩) (Kd.R_far (p := ⟨gb397, 0, none⟩) (Kd.R_mono HO_11.out (fun k_ hk => (⟨hk, hk.2⟩ : _ ∧ k_ ≠ gb397))) (fun _ hk => hk.2) (.string ((rd_T47 l0 x60_3).f0))) (fun _ hk => hk.2) (.int .i64 ((rd_T47 l0 x60_3).f1))) (fun _ hk => hk.2) (.int .i64 ((rd_T47 l0 x60_3).f2))) (fun _ hk => hk.2) (.int .i64 ((rd_T47 l0 x60_3).f3))) (fun _ hk => hk.1.2)))⟩; have n1_ : Aside0 (Kd.R (Kd.int .i64) 3 w55 w.heap.size (fun _ => True) v394 x12_3) := ⟨(by rw [hw]; exact (by (with_reducible repeat (first | apply Kd.R_alloc | apply Kd.R_drewN | apply Kd.R_drew)); exact Kd.R_mono (Kd.R_far (p := ⟨gb397, 3, none⟩) (Kd.R_far (p := ⟨gb397, 2, none⟩) (Kd.R_far (p := ⟨gb397, 1, none⟩) (Kd.R_far (p := ⟨gb397, 0, none⟩) (Kd.R_types HO_12.out BK397.out (by decide)) (fun _ hk => hk.2) (.string ((rd_T47 l0 x60_3).f0))) (fun _ hk => hk.2) (.int .i64 ((rd_T47 l0 x60_3).f1))) (fun _ hk => hk.2) (.int .i64 ((rd_T47 l0 x60_3).f2))) (fun _ hk => hk.2) (.int .i64 ((rd_T47 l0 x60_3).f3))) (fun _ hk => trivial)))⟩; have n2_ : Aside0 (w55.heap[gb397]? = some (.cells #[.string ((rd_T47 l0 x60_3).f0), .int .i64 ((rd_T47 l0 x60_3).f1), .int .i64 ((rd_T47 l0 x60_3).f2), .int .i64 ((rd_T47 l0 x60_3).f3)] 47 (0, 0))) := ⟨(by rw [hw]; exact (by (with_reducible repeat (first | refine zE ?_ _ | refine zF ?_ | refine zG ?_ _)); refine blk_put (cs := #[.string ((rd_T47 l0 x60_3).f0), .int .i64 ((rd_T47 l0 x60_3).f1), .int .i64 ((rd_T47 l0 x60_3).f2), .int .i64 0]) ?_ 3 _ rfl; (with_reducible repeat (first | refine zE ?_ _ | refine zF ?_ | refine zG ?_ _)); refine blk_put (cs := #[.string ((rd_T47 l0 x60_3).f0), .int .i64 ((rd_T47 l0 x60_3).f1), .int .i64 0, .int .i64 0]) ?_ 2 _ rfl; (with_reducible repeat (first | refine zE ?_ _ | refine zF ?_ | refine zG ?_ _)); refine blk_put (cs := #[.string ((rd_T47 l0 x60_3).f0), .int .i64 0, .int .i64 0, .int .i64 0]) ?_ 1 _ rfl; (with_reducible repeat (first | refine zE ?_ _ | refine zF ?_ | refine zG ?_ _)); refine blk_put (cs := #[.string (⟨#[]⟩ : ByteArray), .int .i64 0, .int .i64 0, .int .i64 0]) ?_ 0 _ rfl; (with_reducible repeat (first | refine zE ?_ _ | refine zF ?_ | refine zG ?_ _)); exact BK397.out))⟩; have n3_ : Aside0 (Below w.heap.size w w55) := ⟨(by rw [hw]; exact (by repeat (first | (with_reducible first | exact HB.out | apply zA | apply zB | apply zC | refine zD ?_ GE397.out) | exact HB.out)))⟩; clear hw; clear HO_11; clear HO_12; clear BK397; clear HB; have HO_11 := n0_; have HO_12 := n1_; have BK397 := n2_; have HB := n3_; clear n0_ n1_ n2_ n3_; have hcz56_0 : w55.cell? ⟨gb397, 0, none⟩ = some (.string ((rd_T47 l0 x60_3).f0)) := (zI BK397.out 0).trans rfl; have hcz56_1 : w55.cell? ⟨gb397, 1, none⟩ = some (.int .i64 ((rd_T47 l0 x60_3).f1)) := (zI BK397.out 1).trans rfl; have hcz56_2 : w55.cell? ⟨gb397, 2, none⟩ = some (.int .i64 ((rd_T47 l0 x60_3).f2)) := (zI BK397.out 2).trans rfl; have hcz56_3 : w55.cell? ⟨gb397, 3, none⟩ = some (.int .i64 ((rd_T47 l0 x60_3).f3)) := (zI BK397.out 3).trans rfl; have hfz56_0 := zH BK397.out 0; have hfz56_1 := zH BK397.out 1; have hfz56_2 := zH BK397.out 2; have hfz56_3 := zH BK397.out 3; obtain ⟨Ao57, co57, eo57⟩ := Kd.R_slice HO_11.out; subst eo57; have p50 : 0 ≤ (x60_3 : Int) := zo; have q50 : (x60_3 : Int) < ((x12_3.length : Int) : Int) := zo; obtain ⟨go50, co50, eo50, gb50, gl50, cl50, HG50⟩ := Kd.R_form HO_12.out (by omega); (first | cases eo50 | (injection eo50 with ea_ en_ ec_; (first | subst ea_ | (injection ea_ with ea_; subst ea_)); subst ec_; clear en_)); have GB50 := zK gb50; have GG50 := zK HG50; clear gb50 gl50 HG50; obtain ⟨hx50_0, hf50_0⟩ := Kd.R_celln 0 HO_12.out (x60_3 : Int) p50 q50; replace p50 := eq_true p50; replace q50 := eq_true q50; obtain ⟨hy58_, hz58_⟩ := Kd.R_celln 0 HO_12.out (x60_3 : Int) (zo) (zo); have HP58 := Kd.R_putg HO_12.out (x60_3 : Int) (x11_3.length : Int)) | ((with_reducible refine gate_store (t := 3) (p := 84) rfl ?_); refine store_event (t := 3) (p := 84) (v := ?vo_w59) (w1 := (w55.setCell ⟨go50, (x60_3 : Int).toNat, none⟩ (.int .i64 (x11_3.length : Int)))) ?hg ?ho ?hn ?hr ?_; (case ho => rfl); (case hg => rfl); (case hn => rfl); (case hr => first | (go_simp; done) | (go_simp; rfl)); intro w59 hw; have hg : w55.grownBy w59 (some go50) := (by rw [hw]; exact HP58.2); have hp_ : Kd.R (Kd.int .i64) 3 w59 w.heap.size (fun _ => True) (.slice (some ⟨go50, 0, none⟩) x12_3.length co50) y399 := (by rw [hw, Ny399.out]; exact HP58.1); clear HP58; have n0_ := zK (Kd.R_over' (v := (.slice (some ⟨go50, 0, none⟩) x12_3.length co50)) (by (with_reducible repeat (first | apply Kd.R_alloc | apply Kd.R_drewN | apply Kd.R_drew)); exact HO_11.out) (Kd.R_typed HO_12.out) (by decide) hg); have n1_ := zK (hp_); have n2_ := zK (blk_grown (g := gb397) (o := .cells #[.string ((rd_T47 l0 x60_3).f0), .int .i64 ((rd_T47 l0 x60_3).f1), .int .i64 ((rd_T47 l0 x60_3).f2), .int .i64 ((rd_T47 l0 x60_3).f3)] 47 (0, 0)) (by (with_reducible repeat (first | refine zE ?_ _ | refine zF ?_ | refine zG ?_ _)); exact BK397.out) hg (Kd.R_ne HO_12.out BK397.out (by decide))); have n3_ := zK ((by rw [hw]; exact zD (HB.out) GB50.out : Below w.heap.size w w59)); clear HO_11; clear HO_12; clear BK397; clear HB; have HO_11 := n0_; have HO_12 := n1_; have BK397 := n2_; have HB := n3_; clear n0_ n1_ n2_ n3_; clear hg hw hp_; have hcz60_0 : w59.cell? ⟨gb397, 0, none⟩ = some (.string ((rd_T47 l0 x60_3).f0)) := (zI BK397.out 0).trans rfl; have hcz60_1 : w59.cell? ⟨gb397, 1, none⟩ = some (.int .i64 ((rd_T47 l0 x60_3).f1)) := (zI BK397.out 1).trans rfl; have hcz60_2 : w59.cell? ⟨gb397, 2, none⟩ = some (.int .i64 ((rd_T47 l0 x60_3).f2)) := (zI BK397.out 2).trans rfl; have hcz60_3 : w59.cell? ⟨gb397, 3, none⟩ = some (.int .i64 ((rd_T47 l0 x60_3).f3)) := (zI BK397.out 3).trans rfl; have hfz60_0 := zH BK397.out 0; have hfz60_1 := zH BK397.out 1; have hfz60_2 := zH BK397.out 2; have hfz60_3 := zH BK397.out 3) | ((with_reducible refine gate_callee (f := 62) rfl ?_); refine goesL_ (some 88) rfl rfl Try.func62 (by kernel_rfl) rfl #[.agg #[.string ((rd_T47 l0 x60_3).f0), .int .i64 ((rd_T47 l0 x60_3).f1), .int .i64 ((rd_T47 l0 x60_3).f2), .int .i64 ((rd_T47 l0 x60_3).f3)], .slice (some ⟨go50, 0, none⟩) y399.length co50] rfl (by (try simp only [z6, z7, z8]); first | done | (rw [show y399.length = x12_3.length from (Kd.R_reads' HO_12.out).1.symm] <;> rfl) | rfl | (simp only [z4, z5]; rfl)) ?_; (with_reducible refine (spec_exMoved.calls k3 ((rd_T47 l0 x60_3).f0) ((rd_T47 l0 x60_3).f1) ((rd_T47 l0 x60_3).f2) ((rd_T47 l0 x60_3).f3) _ _ y399 t400 t401 t402 t403 _ ?side1 ?side2 A51.out).mono ?_); (case side1 => repeat (first | exact (Kd.R_reads' HO_12.out).2.2 | (with_reducible refine Kd.C_alloc ?_ _) | (with_reducible refine Kd.C_drewN ?_ _) | (with_reducible refine Kd.C_drew ?_))); (case side2 => rw [show y399.length = x12_3.length from (Kd.R_reads' HO_12.out).1.symm]; exact (Kd.R_reads' HO_12.out).2.1); rintro e w61 ⟨rfl, hb⟩; refine ⟨_, rfl, ?_⟩; have n0_ := zK (Kd.R_below (by (with_reducible repeat (first | apply Kd.R_alloc | apply Kd.R_drewN | apply Kd.R_drew)); exact HO_11.out) hb); have n1_ := zK (Kd.R_below (by (with_reducible repeat (first | apply Kd.R_alloc | apply Kd.R_drewN | apply Kd.R_drew)); exact HO_12.out) hb); have n2_ := zK (zM (g := gb397) (o := .cells #[.string ((rd_T47 l0 x60_3).f0), .int .i64 ((rd_T47 l0 x60_3).f1), .int .i64 ((rd_T47 l0 x60_3).f2), .int .i64 ((rd_T47 l0 x60_3).f3)] 47 (0, 0)) (by (with_reducible repeat (first | refine zE ?_ _ | refine zF ?_ | refine zG ?_ _)); exact BK397.out) hb); have n3_ := zK (zL (by repeat (first | (with_reducible first | exact HB.out | apply zA | apply zB | apply zC | refine zD ?_ GE397.out) | exact HB.out)) hb); clear HO_11; clear HO_12; clear BK397; clear HB; have HO_11 := n0_; have HO_12 := n1_; have BK397 := n2_; have HB := n3_; clear n0_ n1_ n2_ n3_; (try clear hb); (try clear hb2); (try clear hk); (try clear hi)) | ((with_reducible refine gate_builtin (b := .append) (xs := #[.tmp 85, .tmp 89]) rfl ?_); at_builtin; refine Kd.R_append k47 (w0 := w) w.heap.size rfl (.tmp 85) (.tmp 89) 24 47 (.agg #[(.string ⟨#[]⟩), (.int .i64 0), (.int .i64 0), (.int .i64 0)]) 40 rfl Try.underlying24 info47 rfl (by decide) (by omega) (.slice Ao57 x11_3.length co57) x11_3 (⟨t400, t401, t402, t403⟩ : S47) [.string t400, .int .i64 t401, .int .i64 t402, .int .i64 t403] (fun k_ => k_ ≠ gb397) (fun _ => False) rfl rfl ?aP (fun _ hk => hk.elim) ?aF ?aO ?aB ?aS ?aL ?_; (case aP => exact k47_mkM _ _ _ (⟨t400, t401, t402, t403⟩ : S47)); (case aB => exact (by repeat (first | (with_reducible first | exact HB.out | apply zA | apply zB | apply zC | refine zD ?_ GE397.out) | exact HB.out))); (case aF => exact (fun k_ hk => Kd.freshB (g := gb397) (o := .cells #[.string ((rd_T47 l0 x60_3).f0), .int .i64 ((rd_T47 l0 x60_3).f1), .int .i64 ((rd_T47 l0 x60_3).f2), .int .i64 ((rd_T47 l0 x60_3).f3)] 47 (0, 0)) (by (with_reducible repeat (first | refine zE ?_ _ | refine zF ?_ | refine zG ?_ _)); exact BK397.out) k_ hk)); (case aO => exact (by (with_reducible repeat (first | apply Kd.R_alloc | apply Kd.R_drewN | apply Kd.R_drew)); exact HO_11.out)); (case aS => exact (zN (by repeat (first | (with_reducible first | exact HB.out | apply zA | apply zB | apply zC | refine zD ?_ GE397.out) | exact HB.out)))); (case aL => have := LMc52.out; omega); intro v405 w62 ho hb hg hat; rw [← Ny404.out] at ho; have n0_ := zK (Kd.R_over' (by (with_reducible repeat (first | apply Kd.R_alloc | apply Kd.R_drewN | apply Kd.R_drew)); exact HO_12.out) (Kd.R_typed (by (with_reducible repeat (first | apply Kd.R_alloc | apply Kd.R_drewN | apply Kd.R_drew)); exact HO_11.out)) (by decide) hg); have n1_ := zK (blk_grown (g := gb397) (o := .cells #[.string ((rd_T47 l0 x60_3).f0), .int .i64 ((rd_T47 l0 x60_3).f1), .int .i64 ((rd_T47 l0 x60_3).f2), .int .i64 ((rd_T47 l0 x60_3).f3)] 47 (0, 0)) (by (with_reducible repeat (first | refine zE ?_ _ | refine zF ?_ | refine zG ?_ _)); exact BK397.out) hg (Kd.R_away HO_11.out (fun _ hk => hk))); have n2_ := zK (hb); have n3_ := zK (ho); clear HO_12; clear BK397; clear HB; clear HO_11; have HO_12 := n0_; have BK397 := n1_; have HB := n2_; have HO406 := n3_; clear n0_ n1_ n2_ n3_; clear ho hb hg hat))
                    go_roundg k3
                    case measure => have := HJ3.out; have := HK2.out; have := HK3.out; omega
                    case rel => exact ⟨(y404), (y399), (wrap64 (x60_3 + 1)), (by first | rfl | (simp; done) | (simp [*]; done)), H', ⟨by have := HJ3.out; have := HK2.out; have := HK3.out; omega⟩, ⟨by (with_reducible repeat (first | apply Kd.R_alloc | apply Kd.R_drewN | apply Kd.R_drew)); exact Kd.R_mono HO406.out (fun _ hk => trivial)⟩, ⟨by (with_reducible repeat (first | apply Kd.R_alloc | apply Kd.R_drewN | apply Kd.R_drew)); exact HO_12.out⟩, ⟨by repeat (first | (with_reducible first | exact HB.out | apply zA | apply zB | apply zC | refine zD ?_ GE397.out) | exact HB.out)⟩⟩
                   ·rw [if_neg c52] at H
                    exact absurd H (by simp)
                  ·rw [if_neg c49] at H
                   exact absurd H (by simp)
                ·rw [if_neg c39] at H
                 have c39b0 : (((rd_T47 l0 x60_3).f0).toList == ([105, 110] : List UInt8)) = false := beq_eq_false_iff_ne.mpr c39
                 have c39b1 : (((rd_T47 l0 x60_3).f0).toList != ([105, 110] : List UInt8)) = true := bne_iff_ne.mpr c39
                 by_cases c63 : x60_3 < (x12_3.length : Int)
                 ·rw [if_pos c63] at H
                  have c63b0 : decide (x60_3 < (x12_3.length : Int)) = true := decide_eq_true c63
                  clear c63
                  obtain ⟨y407, hy407⟩ : ∃ y_ : List Int, y_ = (x12_3.set (x60_3 : Int).toNat (x11_3.length : Int)) := ⟨_, rfl⟩
                  replace H : ((spec_exMoved.f k3 ((rd_T47 l0 x60_3).f0) ((rd_T47 l0 x60_3).f1) ((rd_T47 l0 x60_3).f2) ((rd_T47 l0 x60_3).f3) y407).bind fun bt408 => (if x11_3.length < 3518437208883 then (spec_PutInput.l1 k3 a1 l2 (x11_3 ++ [(⟨bt408.1, bt408.2.1, bt408.2.2.1, bt408.2.2.2⟩ : S47)]) y407 l0 (l0.length : Int) (wrap64 (x60_3 + 1))) else (none))) = some (r1, r2) := by first | (rw [hy407]; with_reducible exact H) | (have H2_ := (Option.bind_some _ _).symm.trans H; rw [hy407]; with_reducible exact H2_) | (have H2_ := (Option.bind_some _ _).symm.trans H; with_reducible exact H2_) | with_reducible exact H | (rw [hy407]; exact H) | exact H
                  have Ny407 := zK hy407
                  clear hy407
                  replace H := Option.bind_eq_some_iff.mp H
                  obtain ⟨⟨t408, t409, t410, t411⟩, A650, H⟩ := H
                  replace H : (if x11_3.length < 3518437208883 then (spec_PutInput.l1 k3 a1 l2 (x11_3 ++ [(⟨t408, t409, t410, t411⟩ : S47)]) y407 l0 (l0.length : Int) (wrap64 (x60_3 + 1))) else (none)) = some (r1, r2) := H
                  have A65 := zK A650
                  clear A650
                  by_cases c66 : x11_3.length < 3518437208883
                  ·rw [if_pos c66] at H
                   have LMc66 := zK c66
                   clear c66
                   obtain ⟨y412, hy412⟩ : ∃ y_ : List (S47), y_ = (x11_3 ++ [(⟨t408, t409, t410, t411⟩ : S47)]) := ⟨_, rfl⟩
                   replace H : (spec_PutInput.l1 k3 a1 l2 y412 y407 l0 (l0.length : Int) (wrap64 (x60_3 + 1))) = some (r1, r2) := by first | (rw [hy412]; with_reducible exact H) | (have H2_ := (Option.bind_some _ _).symm.trans H; rw [hy412]; with_reducible exact H2_) | (have H2_ := (Option.bind_some _ _).symm.trans H; with_reducible exact H2_) | with_reducible exact H | (rw [hy412]; exact H) | exact H
                   have Ny412 := zK hy412
                   clear hy412
                   have H' := zK H
                   clear H
                   have p396 : 0 ≤ (x60_3 : Int) := zo
                   have q396 : x60_3 < (l0.length : Int) := zo
                   obtain ⟨ad396, e396, hx396_0, hx396_1, hx396_2, hx396_3⟩ := at_T47 HR0.out x60_3 p396 q396
                   cases e396
                   replace hx396_0 := zt HB.out hx396_0
                   replace hx396_1 := zt HB.out hx396_1
                   replace hx396_2 := zt HB.out hx396_2
                   replace hx396_3 := zt HB.out hx396_3
                   replace p396 := eq_true p396
                   replace q396 := eq_true q396
                   go_wp2_with (first | ((with_reducible refine gate_dst (N := 14) rfl ?_); refine box_event ?hg (N := 14) ?hd (cs := #[.string (⟨#[]⟩ : ByteArray), .int .i64 0, .int .i64 0, .int .i64 0]) (t := 47) ?hr ?_; (case hd => rfl); (case hg => rfl); (case hr => first | (go_simp; done) | (go_simp; rfl)); intro gb397 hg w67 hbox hb; have n0_ := zK (Kd.R_below (Kd.R_elderB (by (with_reducible repeat (first | apply Kd.R_alloc | apply Kd.R_drewN | apply Kd.R_drew)); exact HO_11.out) gb397 (Nat.le_of_eq hg.symm)) hb); have n1_ := zK (Kd.R_below (by (with_reducible repeat (first | apply Kd.R_alloc | apply Kd.R_drewN | apply Kd.R_drew)); exact HO_12.out) hb); have n2_ := zK (zL (by repeat (first | (with_reducible first | exact HB.out | apply zA | apply zB | apply zC) | exact HB.out)) hb); have n3_ := zK (hbox); have n4_ := zK ((by rw [hg]; exact (zN (by repeat (first | (with_reducible first | exact HB.out | apply zA | apply zB | apply zC) | exact HB.out))) : w.heap.size ≤ gb397)); have n5_ := zK ((by rw [hg]; exact (zN (by repeat (first | (with_reducible first | exact HB.out | apply zA | apply zB | apply zC) | exact HB.out))) : w.heap.size ≤ gb397)); clear HO_11; clear HO_12; clear HB; have HO_11 := n0_; have HO_12 := n1_; have HB := n2_; have BK397 := n3_; have GW397 := n4_; have GE397 := n5_; clear n0_ n1_ n2_ n3_ n4_ n5_; clear hb hbox hg; have hcz68_0 : w67.cell? ⟨gb397, 0, none⟩ = some (.string (⟨#[]⟩ : ByteArray)) := (zI BK397.out 0).trans rfl; have hcz68_1 : w67.cell? ⟨gb397, 1, none⟩ = some (.int .i64 0) := (zI BK397.out 1).trans rfl; have hcz68_2 : w67.cell? ⟨gb397, 2, none⟩ = some (.int .i64 0) := (zI BK397.out 2).trans rfl; have hcz68_3 : w67.cell? ⟨gb397, 3, none⟩ = some (.int .i64 0) := (zI BK397.out 3).trans rfl; have hfz68_0 := zH BK397.out 0; have hfz68_1 := zH BK397.out 1; have hfz68_2 := zH BK397.out 2; have hfz68_3 := zH BK397.out 3) | ((with_reducible refine gate_store (t := 47) (p := 14) rfl ?_); refine store_event (t := 47) (p := 14) (v := ?vo_w69) (w1 := ((((w67.setCell ⟨gb397, 0, none⟩ (.string ((rd_T47 l0 x60_3).f0))).setCell ⟨gb397, 1, none⟩ (.int .i64 ((rd_T47 l0 x60_3).f1))).setCell ⟨gb397, 2, none⟩ (.int .i64 ((rd_T47 l0 x60_3).f2))).setCell ⟨gb397, 3, none⟩ (.int .i64 ((rd_T47 l0 x60_3).f3)))) ?hg ?ho ?hn ?hr ?_; (case ho => rfl); (case hg => rfl); (case hn => rfl); (case hr => first | (go_simp; done) | (go_simp; rfl)); intro w69 hw; have n0_ : Aside0 (Kd.R k47 47 w69 w.heap.size (fun k_ => k_ ≠ gb397) u11 x11_3) := ⟨(by rw [hw]; exact (by (with_reducible repeat (first | apply Kd.R_alloc | apply Kd.R_drewN | apply Kd.R_drew)); exact Kd.R_mono (Kd.R_far (p := ⟨gb397, 3, none⟩) (Kd.R_far (p := ⟨gb397, 2, none⟩) (Kd.R_far (p := ⟨gb397, 1, none⟩) (Kd.R_far (p := ⟨gb397, 0, none⟩) (Kd.R_mono HO_11.out (fun k_ hk => (⟨hk, hk.2⟩ : _ ∧ k_ ≠ gb397))) (fun _ hk => hk.2) (.string ((rd_T47 l0 x60_3).f0))) (fun _ hk => hk.2) (.int .i64 ((rd_T47 l0 x60_3).f1))) (fun _ hk => hk.2) (.int .i64 ((rd_T47 l0 x60_3).f2))) (fun _ hk => hk.2) (.int .i64 ((rd_T47 l0 x60_3).f3))) (fun _ hk => hk.1.2)))⟩; have n1_ : Aside0 (Kd.R (Kd.int .i64) 3 w69 w.heap.size (fun _ => True) v394 x12_3) := ⟨(by rw [hw]; exact (by (with_reducible repeat (first | apply Kd.R_alloc | apply Kd.R_drewN | apply Kd.R_drew)); exact Kd.R_mono (Kd.R_far (p := ⟨gb397, 3, none⟩) (Kd.R_far (p := ⟨gb397, 2, none⟩) (Kd.R_far (p := ⟨gb397, 1, none⟩) (Kd.R_far (p := ⟨gb397, 0, none⟩) (Kd.R_types HO_12.out BK397.out (by decide)) (fun _ hk => hk.2) (.string ((rd_T47 l0 x60_3).f0))) (fun _ hk => hk.2) (.int .i64 ((rd_T47 l0 x60_3).f1))) (fun _ hk => hk.2) (.int .i64 ((rd_T47 l0 x60_3).f2))) (fun _ hk => hk.2) (.int .i64 ((rd_T47 l0 x60_3).f3))) (fun _ hk => trivial)))⟩; have n2_ : Aside0 (w69.heap[gb397]? = some (.cells #[.string ((rd_T47 l0 x60_3).f0), .int .i64 ((rd_T47 l0 x60_3).f1), .int .i64 ((rd_T47 l0 x60_3).f2), .int .i64 ((rd_T47 l0 x60_3).f3)] 47 (0, 0))) := ⟨(by rw [hw]; exact (by (with_reducible repeat (first | refine zE ?_ _ | refine zF ?_ | refine zG ?_ _)); refine blk_put (cs := #[.string ((rd_T47 l0 x60_3).f0), .int .i64 ((rd_T47 l0 x60_3).f1), .int .i64 ((rd_T47 l0 x60_3).f2), .int .i64 0]) ?_ 3 _ rfl; (with_reducible repeat (first | refine zE ?_ _ | refine zF ?_ | refine zG ?_ _)); refine blk_put (cs := #[.string ((rd_T47 l0 x60_3).f0), .int .i64 ((rd_T47 l0 x60_3).f1), .int .i64 0, .int .i64 0]) ?_ 2 _ rfl; (with_reducible repeat (first | refine zE ?_ _ | refine zF ?_ | refine zG ?_ _)); refine blk_put (cs := #[.string ((rd_T47 l0 x60_3).f0), .int .i64 0, .int .i64 0, .int .i64 0]) ?_ 1 _ rfl; (with_reducible repeat (first | refine zE ?_ _ | refine zF ?_ | refine zG ?_ _)); refine blk_put (cs := #[.string (⟨#[]⟩ : ByteArray), .int .i64 0, .int .i64 0, .int .i64 0]) ?_ 0 _ rfl; (with_reducible repeat (first | refine zE ?_ _ | refine zF ?_ | refine zG ?_ _)); exact BK397.out))⟩; have n3_ : Aside0 (Below w.heap.size w w69) := ⟨(by rw [hw]; exact (by repeat (first | (with_reducible first | exact HB.out | apply zA | apply zB | apply zC | refine zD ?_ GE397.out) | exact HB.out)))⟩; clear hw; clear HO_11; clear HO_12; clear BK397; clear HB; have HO_11 := n0_; have HO_12 := n1_; have BK397 := n2_; have HB := n3_; clear n0_ n1_ n2_ n3_; have hcz70_0 : w69.cell? ⟨gb397, 0, none⟩ = some (.string ((rd_T47 l0 x60_3).f0)) := (zI BK397.out 0).trans rfl; have hcz70_1 : w69.cell? ⟨gb397, 1, none⟩ = some (.int .i64 ((rd_T47 l0 x60_3).f1)) := (zI BK397.out 1).trans rfl; have hcz70_2 : w69.cell? ⟨gb397, 2, none⟩ = some (.int .i64 ((rd_T47 l0 x60_3).f2)) := (zI BK397.out 2).trans rfl; have hcz70_3 : w69.cell? ⟨gb397, 3, none⟩ = some (.int .i64 ((rd_T47 l0 x60_3).f3)) := (zI BK397.out 3).trans rfl; have hfz70_0 := zH BK397.out 0; have hfz70_1 := zH BK397.out 1; have hfz70_2 := zH BK397.out 2; have hfz70_3 := zH BK397.out 3; obtain ⟨Ao71, co71, eo71⟩ := Kd.R_slice HO_11.out; subst eo71; have p64 : 0 ≤ (x60_3 : Int) := zo; have q64 : (x60_3 : Int) < ((x12_3.length : Int) : Int) := zo; obtain ⟨go64, co64, eo64, gb64, gl64, cl64, HG64⟩ := Kd.R_form HO_12.out (by omega); (first | cases eo64 | (injection eo64 with ea_ en_ ec_; (first | subst ea_ | (injection ea_ with ea_; subst ea_)); subst ec_; clear en_)); have GB64 := zK gb64; have GG64 := zK HG64; clear gb64 gl64 HG64; obtain ⟨hx64_0, hf64_0⟩ := Kd.R_celln 0 HO_12.out (x60_3 : Int) p64 q64; replace p64 := eq_true p64; replace q64 := eq_true q64; obtain ⟨hy72_, hz72_⟩ := Kd.R_celln 0 HO_12.out (x60_3 : Int) (zo) (zo); have HP72 := Kd.R_putg HO_12.out (x60_3 : Int) (x11_3.length : Int)) | ((with_reducible refine gate_store (t := 3) (p := 84) rfl ?_); refine store_event (t := 3) (p := 84) (v := ?vo_w73) (w1 := (w69.setCell ⟨go64, (x60_3 : Int).toNat, none⟩ (.int .i64 (x11_3.length : Int)))) ?hg ?ho ?hn ?hr ?_; (case ho => rfl); (case hg => rfl); (case hn => rfl); (case hr => first | (go_simp; done) | (go_simp; rfl)); intro w73 hw; have hg : w69.grownBy w73 (some go64) := (by rw [hw]; exact HP72.2); have hp_ : Kd.R (Kd.int .i64) 3 w73 w.heap.size (fun _ => True) (.slice (some ⟨go64, 0, none⟩) x12_3.length co64) y407 := (by rw [hw, Ny407.out]; exact HP72.1); clear HP72; have n0_ := zK (Kd.R_over' (v := (.slice (some ⟨go64, 0, none⟩) x12_3.length co64)) (by (with_reducible repeat (first | apply Kd.R_alloc | apply Kd.R_drewN | apply Kd.R_drew)); exact HO_11.out) (Kd.R_typed HO_12.out) (by decide) hg); have n1_ := zK (hp_); have n2_ := zK (blk_grown (g := gb397) (o := .cells #[.string ((rd_T47 l0 x60_3).f0), .int .i64 ((rd_T47 l0 x60_3).f1), .int .i64 ((rd_T47 l0 x60_3).f2), .int .i64 ((rd_T47 l0 x60_3).f3)] 47 (0, 0)) (by (with_reducible repeat (first | refine zE ?_ _ | refine zF ?_ | refine zG ?_ _)); exact BK397.out) hg (Kd.R_ne HO_12.out BK397.out (by decide))); have n3_ := zK ((by rw [hw]; exact zD (HB.out) GB64.out : Below w.heap.size w w73)); clear HO_11; clear HO_12; clear BK397; clear HB; have HO_11 := n0_; have HO_12 := n1_; have BK397 := n2_; have HB := n3_; clear n0_ n1_ n2_ n3_; clear hg hw hp_; have hcz74_0 : w73.cell? ⟨gb397, 0, none⟩ = some (.string ((rd_T47 l0 x60_3).f0)) := (zI BK397.out 0).trans rfl; have hcz74_1 : w73.cell? ⟨gb397, 1, none⟩ = some (.int .i64 ((rd_T47 l0 x60_3).f1)) := (zI BK397.out 1).trans rfl; have hcz74_2 : w73.cell? ⟨gb397, 2, none⟩ = some (.int .i64 ((rd_T47 l0 x60_3).f2)) := (zI BK397.out 2).trans rfl; have hcz74_3 : w73.cell? ⟨gb397, 3, none⟩ = some (.int .i64 ((rd_T47 l0 x60_3).f3)) := (zI BK397.out 3).trans rfl; have hfz74_0 := zH BK397.out 0; have hfz74_1 := zH BK397.out 1; have hfz74_2 := zH BK397.out 2; have hfz74_3 := zH BK397.out 3) | ((with_reducible refine gate_callee (f := 62) rfl ?_); refine goesL_ (some 88) rfl rfl Try.func62 (by kernel_rfl) rfl #[.agg #[.string ((rd_T47 l0 x60_3).f0), .int .i64 ((rd_T47 l0 x60_3).f1), .int .i64 ((rd_T47 l0 x60_3).f2), .int .i64 ((rd_T47 l0 x60_3).f3)], .slice (some ⟨go64, 0, none⟩) y407.length co64] rfl (by (try simp only [z6, z7, z8]); first | done | (rw [show y407.length = x12_3.length from (Kd.R_reads' HO_12.out).1.symm] <;> rfl) | rfl | (simp only [z4, z5]; rfl)) ?_; (with_reducible refine (spec_exMoved.calls k3 ((rd_T47 l0 x60_3).f0) ((rd_T47 l0 x60_3).f1) ((rd_T47 l0 x60_3).f2) ((rd_T47 l0 x60_3).f3) _ _ y407 t408 t409 t410 t411 _ ?side1 ?side2 A65.out).mono ?_); (case side1 => repeat (first | exact (Kd.R_reads' HO_12.out).2.2 | (with_reducible refine Kd.C_alloc ?_ _) | (with_reducible refine Kd.C_drewN ?_ _) | (with_reducible refine Kd.C_drew ?_))); (case side2 => rw [show y407.length = x12_3.length from (Kd.R_reads' HO_12.out).1.symm]; exact (Kd.R_reads' HO_12.out).2.1); rintro e w75 ⟨rfl, hb⟩; refine ⟨_, rfl, ?_⟩; have n0_ := zK (Kd.R_below (by (with_reducible repeat (first | apply Kd.R_alloc | apply Kd.R_drewN | apply Kd.R_drew)); exact HO_11.out) hb); have n1_ := zK (Kd.R_below (by (with_reducible repeat (first | apply Kd.R_alloc | apply Kd.R_drewN | apply Kd.R_drew)); exact HO_12.out) hb); have n2_ := zK (zM (g := gb397) (o := .cells #[.string ((rd_T47 l0 x60_3).f0), .int .i64 ((rd_T47 l0 x60_3).f1), .int .i64 ((rd_T47 l0 x60_3).f2), .int .i64 ((rd_T47 l0 x60_3).f3)] 47 (0, 0)) (by (with_reducible repeat (first | refine zE ?_ _ | refine zF ?_ | refine zG ?_ _)); exact BK397.out) hb); have n3_ := zK (zL (by repeat (first | (with_reducible first | exact HB.out | apply zA | apply zB | apply zC | refine zD ?_ GE397.out) | exact HB.out)) hb); clear HO_11; clear HO_12; clear BK397; clear HB; have HO_11 := n0_; have HO_12 := n1_; have BK397 := n2_; have HB := n3_; clear n0_ n1_ n2_ n3_; (try clear hb); (try clear hb2); (try clear hk); (try clear hi)) | ((with_reducible refine gate_builtin (b := .append) (xs := #[.tmp 85, .tmp 89]) rfl ?_); at_builtin; refine Kd.R_append k47 (w0 := w) w.heap.size rfl (.tmp 85) (.tmp 89) 24 47 (.agg #[(.string ⟨#[]⟩), (.int .i64 0), (.int .i64 0), (.int .i64 0)]) 40 rfl Try.underlying24 info47 rfl (by decide) (by omega) (.slice Ao71 x11_3.length co71) x11_3 (⟨t408, t409, t410, t411⟩ : S47) [.string t408, .int .i64 t409, .int .i64 t410, .int .i64 t411] (fun k_ => k_ ≠ gb397) (fun _ => False) rfl rfl ?aP (fun _ hk => hk.elim) ?aF ?aO ?aB ?aS ?aL ?_; (case aP => exact k47_mkM _ _ _ (⟨t408, t409, t410, t411⟩ : S47)); (case aB => exact (by repeat (first | (with_reducible first | exact HB.out | apply zA | apply zB | apply zC | refine zD ?_ GE397.out) | exact HB.out))); (case aF => exact (fun k_ hk => Kd.freshB (g := gb397) (o := .cells #[.string ((rd_T47 l0 x60_3).f0), .int .i64 ((rd_T47 l0 x60_3).f1), .int .i64 ((rd_T47 l0 x60_3).f2), .int .i64 ((rd_T47 l0 x60_3).f3)] 47 (0, 0)) (by (with_reducible repeat (first | refine zE ?_ _ | refine zF ?_ | refine zG ?_ _)); exact BK397.out) k_ hk)); (case aO => exact (by (with_reducible repeat (first | apply Kd.R_alloc | apply Kd.R_drewN | apply Kd.R_drew)); exact HO_11.out)); (case aS => exact (zN (by repeat (first | (with_reducible first | exact HB.out | apply zA | apply zB | apply zC | refine zD ?_ GE397.out) | exact HB.out)))); (case aL => have := LMc66.out; omega); intro v413 w76 ho hb hg hat; rw [← Ny412.out] at ho; have n0_ := zK (Kd.R_over' (by (with_reducible repeat (first | apply Kd.R_alloc | apply Kd.R_drewN | apply Kd.R_drew)); exact HO_12.out) (Kd.R_typed (by (with_reducible repeat (first | apply Kd.R_alloc | apply Kd.R_drewN | apply Kd.R_drew)); exact HO_11.out)) (by decide) hg); have n1_ := zK (blk_grown (g := gb397) (o := .cells #[.string ((rd_T47 l0 x60_3).f0), .int .i64 ((rd_T47 l0 x60_3).f1), .int .i64 ((rd_T47 l0 x60_3).f2), .int .i64 ((rd_T47 l0 x60_3).f3)] 47 (0, 0)) (by (with_reducible repeat (first | refine zE ?_ _ | refine zF ?_ | refine zG ?_ _)); exact BK397.out) hg (Kd.R_away HO_11.out (fun _ hk => hk))); have n2_ := zK (hb); have n3_ := zK (ho); clear HO_12; clear BK397; clear HB; clear HO_11; have HO_12 := n0_; have BK397 := n1_; have HB := n2_; have HO414 := n3_; clear n0_ n1_ n2_ n3_; clear ho hb hg hat))
                   go_roundg k3
                   case measure => have := HJ3.out; have := HK2.out; have := HK3.out; omega
                   case rel => exact ⟨(y412), (y407), (wrap64 (x60_3 + 1)), (by first | rfl | (simp; done) | (simp [*]; done)), H', ⟨by have := HJ3.out; have := HK2.out; have := HK3.out; omega⟩, ⟨by (with_reducible repeat (first | apply Kd.R_alloc | apply Kd.R_drewN | apply Kd.R_drew)); exact Kd.R_mono HO414.out (fun _ hk => trivial)⟩, ⟨by (with_reducible repeat (first | apply Kd.R_alloc | apply Kd.R_drewN | apply Kd.R_drew)); exact HO_12.out⟩, ⟨by repeat (first | (with_reducible first | exact HB.out | apply zA | apply zB | apply zC | refine zD ?_ GE397.out) | exact HB.out)⟩⟩
                  ·rw [if_neg c66] at H
                   exact absurd H (by simp)
                 ·rw [if_neg c63] at H
                  exact absurd H (by simp)
               ·rw [if_neg c38] at H
                exact absurd H (by simp)
              ·rw [if_neg c37] at H
               exact absurd H (by simp)
             ·rw [if_neg c36] at H
              have c36b0 : decide (x60_3 < (l0.length : Int)) = false := decide_eq_false c36
              clear c36
              by_cases c77 : (x11_3.length : Int) > 24
              ·rw [if_pos c77] at H
               have c77b0 : decide (24 < (x11_3.length : Int)) = true := decide_eq_true c77
               have c77b1 : decide (24 < x11_3.length) = true := decide_eq_true (by omega)
               clear c77
               simp only [Option.some.injEq, Prod.mk.injEq] at H
               obtain ⟨rfl, rfl⟩ := H
               obtain ⟨Ao78, co78, eo78⟩ := Kd.R_slice HO_11.out
               subst eo78
               go_wp2
               go_ret2
               exact ⟨_, by first | rfl | (simp [errW_none, errW_some] <;> rfl) | (simp [*, errW_none, errW_some] <;> rfl), by first | exact Kd.R_nil _ _ _ _ _ | exact Kd.N_nil _ _ _ _ _ | exact Kd.V_nil _ _ _ _ _ | exact Kd.Q_nil _ _ _ _ _ | exact Kd.S_nil _ _ _ _ _, by repeat (first | (with_reducible first | exact HB.out | apply zA | apply zB | apply zC) | exact HB.out)⟩
              ·rw [if_neg c77] at H
               have c77b0 : decide (24 < (x11_3.length : Int)) = false := decide_eq_false c77
               have c77b1 : decide (24 < x11_3.length) = false := decide_eq_false (by omega)
               clear c77
               simp only [Option.some.injEq, Prod.mk.injEq] at H
               obtain ⟨rfl, rfl⟩ := H
               obtain ⟨Ao79, co79, eo79⟩ := Kd.R_slice HO_11.out
               subst eo79
               go_wp2
               go_ret2
               exact ⟨_, by first | rfl | (simp [errW_none, errW_some] <;> rfl) | (simp [*, errW_none, errW_some] <;> rfl), by (with_reducible repeat (first | apply Kd.R_alloc | apply Kd.R_drewN | apply Kd.R_drew)); exact HO_11.out, by repeat (first | (with_reducible first | exact HB.out | apply zA | apply zB | apply zC) | exact HB.out)⟩
          ·rw [if_neg c30] at H
           exact absurd H (by simp)
         ·rw [if_neg c29] at H
          exact absurd H (by simp)
        ·rw [if_neg c28] at H
         exact absurd H (by simp)
       ·replace c27 := Bool.eq_false_iff.mpr c27
        subst c27
        have H1 : ((some (([] : List (S47)) : List (S47))).bind fun y381 => (if y381.length + l0.length < 3518437208883 then (some ((y381 ++ l0), true)) else (none))) = some (r1, r2) := by rw [if_neg (show ¬ (false = true) by decide)] at H; exact H
        clear H
        have H := H1
        clear H1
        obtain ⟨y381, hy381⟩ : ∃ y_ : List (S47), y_ = (([] : List (S47))) := ⟨_, rfl⟩
        replace H : (if y381.length + l0.length < 3518437208883 then (some ((y381 ++ l0), true)) else (none)) = some (r1, r2) := by first | (rw [hy381]; with_reducible exact H) | (have H2_ := (Option.bind_some _ _).symm.trans H; rw [hy381]; with_reducible exact H2_) | (have H2_ := (Option.bind_some _ _).symm.trans H; with_reducible exact H2_) | with_reducible exact H | (rw [hy381]; exact H) | exact H
        have Ny381 := zK hy381
        clear hy381
        by_cases c80 : y381.length + l0.length < 3518437208883
        ·rw [if_pos c80] at H
         have LMc80 := zK c80
         clear c80
         obtain ⟨y384, hy384⟩ : ∃ y_ : List (S47), y_ = (y381 ++ l0) := ⟨_, rfl⟩
         replace H : (some (y384, true)) = some (r1, r2) := by first | (rw [hy384]; with_reducible exact H) | (have H2_ := (Option.bind_some _ _).symm.trans H; rw [hy384]; with_reducible exact H2_) | (have H2_ := (Option.bind_some _ _).symm.trans H; with_reducible exact H2_) | with_reducible exact H | (rw [hy384]; exact H) | exact H
         have Ny384 := zK hy384
         clear hy384
         simp only [Option.some.injEq, Prod.mk.injEq] at H
         obtain ⟨rfl, rfl⟩ := H
         go_wp2_with (first | ((with_reducible refine gate_dst (N := 49) rfl ?_); refine Kd.R_lit k47 _ 47 ?hg (N := 49) ?hd (xs := ([] : List (S47))) (inner := []) (ok := fun _ => True) (okp := fun _ => True) ?hr ?hp (fun _ hk => hk) trivial (Below.refl _ _) (Nat.le_refl _) (by simp) ?_; (case hd => rfl); (case hg => rfl); (case hr => first | (go_simp; done) | (go_simp; rfl)); (case hp => exact (Reps.none _ _)); intro v382 w81 ho82 hb hg_ hnew_; clear hg_ hnew_; (first | rw [← Ny381.out] at ho82 | (simp only [Int.reduceToNat] at ho82; rw [← Ny381.out] at ho82)); have n0_ := zK (Kd.R_lower ho82 (zN (by repeat (first | (with_reducible first | exact HB.out | apply zA | apply zB | apply zC) | exact HB.out)))); have n1_ := zK (zL (by repeat (first | (with_reducible first | exact HB.out | apply zA | apply zB | apply zC) | exact HB.out)) hb); clear HB; have HO383 := n0_; have HB := n1_; clear n0_ n1_; clear hb ho82) | ((with_reducible refine gate_builtin (b := .append) (xs := #[.tmp 49, .tmp 50]) rfl ?_); at_builtin; refine Kd.R_append_rows k47 (w0 := w) w.heap.size rfl (.tmp 49) (.tmp 50) 24 47 (.agg #[(.string ⟨#[]⟩), (.int .i64 0), (.int .i64 0), (.int .i64 0)]) 40 rfl Try.underlying24 info47 rfl (by decide) (by omega) v382 y381 l0 _ _ _ (fun _ => True) (fun _ => False) rfl rfl ?aO ?aR (fun _ _ h => h) (fun _ h => h.elim) ?aF ?aB ?aS ?aL ?_; (case aR => repeat (first | exact (Kd.C_below HR0.out HB.out) | (with_reducible refine Kd.C_alloc ?_ _) | (with_reducible refine Kd.C_drewN ?_ _) | (with_reducible refine Kd.C_drew ?_))); (case aB => exact (by repeat (first | (with_reducible first | exact HB.out | apply zA | apply zB | apply zC) | exact HB.out))); (case aF => exact (fun _ _ => trivial)); (case aO => exact (by (with_reducible repeat (first | apply Kd.R_alloc | apply Kd.R_drewN | apply Kd.R_drew)); exact HO383.out)); (case aS => exact (zN (by repeat (first | (with_reducible first | exact HB.out | apply zA | apply zB | apply zC) | exact HB.out)))); (case aL => have := LMc80.out; omega); intro v385 w83 ho hb hg hat; rw [← Ny384.out] at ho; have n0_ := zK (hb); have n1_ := zK (ho); clear HB; clear HO383; have HB := n0_; have HO386 := n1_; clear n0_ n1_; clear ho hb hg hat))
         go_ret2
         exact ⟨_, by first | rfl | (simp [errW_none, errW_some] <;> rfl) | (simp [*, errW_none, errW_some] <;> rfl), by (with_reducible repeat (first | apply Kd.R_alloc | apply Kd.R_drewN | apply Kd.R_drew)); exact HO386.out, by repeat (first | (with_reducible first | exact HB.out | apply zA | apply zB | apply zC) | exact HB.out)⟩
        ·rw [if_neg c80] at H
         exact absurd H (by simp)

/-! ### laws_pSameExpr: function 12 -/
def laws_pSameExpr.l0 : Nat → List (S47) → List (S47) → Int → Int → Option (Bool)
 | 0, _, _, _, _ => none
 | k + 1, x0, x1, x12, x13 => if x13 < x12 then (if 0 ≤ x13 then (if x13 < (x0.length : Int) then (if x13 < (x1.length : Int) then (if (!((((rd_T47 x0 x13).f0).toList) == (((rd_T47 x1 x13).f0).toList)) || (!(((rd_T47 x0 x13).f1) == ((rd_T47 x1 x13).f1)) || (!(((rd_T47 x0 x13).f2) == ((rd_T47 x1 x13).f2)) || (!(((rd_T47 x0 x13).f3) == ((rd_T47 x1 x13).f3)))))) = true then (some false) else (laws_pSameExpr.l0 k x0 x1 x12 (wrap64 (x13 + 1)))) else (none)) else (none)) else (none)) else (some true)
def laws_pSameExpr.f (k : Nat) (l0 : List (S47)) (l1 : List (S47)) : Option (Bool) := if (l0.length : Int) = (l1.length : Int) then (laws_pSameExpr.l0 k l0 l1 (l0.length : Int) 0) else (some false)
theorem laws_pSameExpr.mono_l : ∀ k, (∀ y0 y1 y2 y3, LeO (laws_pSameExpr.l0 k y0 y1 y2 y3) (laws_pSameExpr.l0 (k + 1) y0 y1 y2 y3))
 | 0 => fun _ _ _ _ r h => by simp [laws_pSameExpr.l0] at h
 | k + 1 => by
  have ih0 := laws_pSameExpr.mono_l k
  ·intro y0 y1 y2 y3
   unfold laws_pSameExpr.l0
   repeat' first
   | (with_reducible exact ih0 _ _ _ _)
   | (with_reducible exact LeO.refl _)
   | (with_reducible exact LeO.none _)
   | (with_reducible refine LeO.ite ?_ ?_)
   | (with_reducible refine LeO.bind ?_ (fun _ => ?_))
   | exact ih0 _ _ _ _
   | exact LeO.none _
   | refine LeO.ite ?_ ?_
   | refine LeO.bind ?_ (fun _ => ?_)
theorem laws_pSameExpr.mono : ∀ a0 a1 k, LeO (laws_pSameExpr.f k a0 a1) (laws_pSameExpr.f (k + 1) a0 a1) := by
 intro a0 a1 k
 have ih0 := laws_pSameExpr.mono_l k
 unfold laws_pSameExpr.f
 repeat' first
   | (with_reducible exact ih0 _ _ _ _)
   | (with_reducible exact LeO.refl _)
   | (with_reducible exact LeO.none _)
   | (with_reducible refine LeO.ite ?_ ?_)
   | (with_reducible refine LeO.bind ?_ (fun _ => ?_))
   | exact ih0 _ _ _ _
   | exact LeO.none _
   | refine LeO.ite ?_ ?_
   | refine LeO.bind ?_ (fun _ => ?_)
set_option maxHeartbeats 8000000 in
set_option maxRecDepth 100000 in
theorem laws_pSameExpr.calls (k : Nat) (A0 : Option Addr) (c0 : Nat) (l0 : List (S47)) (A1 : Option Addr) (c1 : Nat) (l1 : List (S47)) (r : Bool) (w : World) (hr0 : Kd.C k47 w A0 l0.length l0) (hc0 : l0.length ≤ c0) (hr1 : Kd.C k47 w A1 l1.length l1) (hc1 : l1.length ≤ c1) (h : laws_pSameExpr.f k l0 l1 = some r) :
  Calls Try.prog 12 #[.slice A0 l0.length c0, .slice A1 l1.length c1] w fun e w' => e = .returned (.bool r) ∧ Drawn0 w w' := by
 have hu47 := Try.underlying47
 have HR0 := zK hr0
 have HC0 := zK hc0
 clear hr0 hc0
 have HR1 := zK hr1
 have HC1 := zK hc1
 clear hr1 hc1
 have H : (if (l0.length : Int) = (l1.length : Int) then (laws_pSameExpr.l0 k l0 l1 (l0.length : Int) 0) else (some false)) = some r := h
 clear h
 by_cases c3 : (l0.length : Int) = (l1.length : Int)
 ·rw [if_pos c3] at H
  have c3b0 : ((l0.length : Int) == (l1.length : Int)) = true := beq_iff_eq.mpr c3
  have c3b1 : ((l0.length : Int) != (l1.length : Int)) = false := bne_eq_false_iff_eq.mpr c3
  have c3b2 : (l0.length == l1.length) = true := by first | simpa using c3 | (simp at c3 ⊢; omega)
  clear c3
  have H' := zK H
  clear H
  go_enter Try.func12, Try.ntmps12
  go_wp2
  repeat (go_quiet (fail); try go_wp2)
  go_loopg [13] k (fun kq v13 w' => ∃ (x13_1 : Int), v13 = .int .i64 x13_1 ∧ Aside0 (laws_pSameExpr.l0 kq l0 l1 (l0.length : Int) x13_1 = some r) ∧ Aside0 (kq ≤ k) ∧ Drawn0 w w')
  case atStart => exact ⟨(0), (by first | rfl | (simp; done) | (simp [*]; done)), H', ⟨Nat.le_refl _⟩, by repeat (first | exact Drawn0.refl _ | apply Drawn0.step)⟩
  case round =>
   clear H'
   try clear c1
   try clear p2
   try clear c3
   try clear c3b0
   try clear c3b1
   try clear c3b2
   obtain ⟨x13_1, rfl, HA, HK1, ⟨m1, rfl⟩⟩ := hrel
   cases gk with
   | zero => exact absurd HA.out (by simp [laws_pSameExpr.l0])
   | succ k1 =>
    have H := HA.out
    clear HA
    simp only [laws_pSameExpr.l0] at H
    by_cases c4 : x13_1 < (l0.length : Int)
    ·rw [if_pos c4] at H
     have c4b0 : decide (x13_1 < (l0.length : Int)) = true := decide_eq_true c4
     clear c4
     by_cases c5 : 0 ≤ x13_1
     ·rw [if_pos c5] at H
      have c5b0 : decide (0 ≤ x13_1) = true := decide_eq_true c5
      clear c5
      by_cases c6 : x13_1 < (l0.length : Int)
      ·rw [if_pos c6] at H
       have c6b0 : decide (x13_1 < (l0.length : Int)) = true := decide_eq_true c6
       clear c6
       by_cases c7 : x13_1 < (l1.length : Int)
       ·rw [if_pos c7] at H
        have c7b0 : decide (x13_1 < (l1.length : Int)) = true := decide_eq_true c7
        clear c7
        by_cases c8 : (!((((rd_T47 l0 x13_1).f0).toList) == (((rd_T47 l1 x13_1).f0).toList)) || (!(((rd_T47 l0 x13_1).f1) == ((rd_T47 l1 x13_1).f1)) || (!(((rd_T47 l0 x13_1).f2) == ((rd_T47 l1 x13_1).f2)) || (!(((rd_T47 l0 x13_1).f3) == ((rd_T47 l1 x13_1).f3)))))) = true
        ·rw [if_pos c8] at H
         have c8b0 : (!((((rd_T47 l0 x13_1).f0).toList) == (((rd_T47 l1 x13_1).f0).toList)) || (!(((rd_T47 l0 x13_1).f1) == ((rd_T47 l1 x13_1).f1)) || (!(((rd_T47 l0 x13_1).f2) == ((rd_T47 l1 x13_1).f2)) || (!(((rd_T47 l0 x13_1).f3) == ((rd_T47 l1 x13_1).f3)))))) = true := c8
         clear c8
         obtain rfl := Option.some.inj H
         have p415 : 0 ≤ (x13_1 : Int) := zo
         have q415 : x13_1 < (l0.length : Int) := zo
         obtain ⟨ad415, e415, hx415_0, hx415_1, hx415_2, hx415_3⟩ := at_T47 HR0.out x13_1 p415 q415
         cases e415
         replace p415 := eq_true p415
         replace q415 := eq_true q415
         have p416 : 0 ≤ (x13_1 : Int) := zo
         have q416 : x13_1 < (l1.length : Int) := zo
         obtain ⟨ad416, e416, hx416_0, hx416_1, hx416_2, hx416_3⟩ := at_T47 HR1.out x13_1 p416 q416
         cases e416
         replace p416 := eq_true p416
         replace q416 := eq_true q416
         go_wp2
         repeat (go_quiet (fail); try go_wp2)
         go_ret
         exact ⟨by first | rfl | (simp; done) | (simp [*]; done), by repeat (first | exact Drawn0.refl _ | apply Drawn0.step)⟩
        ·rw [if_neg c8] at H
         have c8b0 : (!((((rd_T47 l0 x13_1).f0).toList) == (((rd_T47 l1 x13_1).f0).toList)) || (!(((rd_T47 l0 x13_1).f1) == ((rd_T47 l1 x13_1).f1)) || (!(((rd_T47 l0 x13_1).f2) == ((rd_T47 l1 x13_1).f2)) || (!(((rd_T47 l0 x13_1).f3) == ((rd_T47 l1 x13_1).f3)))))) = false := by simpa using c8
         clear c8
         have H' := zK H
         clear H
         have p415 : 0 ≤ (x13_1 : Int) := zo
         have q415 : x13_1 < (l0.length : Int) := zo
         obtain ⟨ad415, e415, hx415_0, hx415_1, hx415_2, hx415_3⟩ := at_T47 HR0.out x13_1 p415 q415
         cases e415
         replace p415 := eq_true p415
         replace q415 := eq_true q415
         have p416 : 0 ≤ (x13_1 : Int) := zo
         have q416 : x13_1 < (l1.length : Int) := zo
         obtain ⟨ad416, e416, hx416_0, hx416_1, hx416_2, hx416_3⟩ := at_T47 HR1.out x13_1 p416 q416
         cases e416
         replace p416 := eq_true p416
         replace q416 := eq_true q416
         go_wp2
         repeat (go_quiet (fail); try go_wp2)
         go_roundg k1
         case measure => have := HK1.out; omega
         case rel => exact ⟨(wrap64 (x13_1 + 1)), (by first | rfl | (simp; done) | (simp [*]; done)), H', ⟨by have := HK1.out; omega⟩, by repeat (first | exact Drawn0.refl _ | apply Drawn0.step)⟩
       ·rw [if_neg c7] at H
        exact absurd H (by simp)
      ·rw [if_neg c6] at H
       exact absurd H (by simp)
     ·rw [if_neg c5] at H
      exact absurd H (by simp)
    ·rw [if_neg c4] at H
     have c4b0 : decide (x13_1 < (l0.length : Int)) = false := decide_eq_false c4
     clear c4
     obtain rfl := Option.some.inj H
     go_wp2
     repeat (go_quiet (fail); try go_wp2)
     go_ret
     exact ⟨by first | rfl | (simp; done) | (simp [*]; done), by repeat (first | exact Drawn0.refl _ | apply Drawn0.step)⟩
 ·rw [if_neg c3] at H
  have c3b0 : ((l0.length : Int) == (l1.length : Int)) = false := beq_eq_false_iff_ne.mpr c3
  have c3b1 : ((l0.length : Int) != (l1.length : Int)) = true := bne_iff_ne.mpr c3
  have c3b2 : (l0.length == l1.length) = false := by first | simpa using c3 | (simp at c3 ⊢; omega)
  obtain rfl := Option.some.inj H
  go_enter Try.func12, Try.ntmps12
  go_wp2
  repeat (go_quiet (fail); try go_wp2)
  go_ret
  exact ⟨by first | rfl | (simp; done) | (simp [*]; done), by repeat (first | exact Drawn0.refl _ | apply Drawn0.step)⟩

/-! ### spec_DrawIsExpr: function 63 -/
def spec_DrawIsExpr.f (k : Nat) (l0 : List Int) : Option ((List (S47))) := (spec_newstate.f l0).bind fun bt417 => ((spec_l1Cur_anyExpr.f k bt417.1 bt417.2.1 bt417.2.2 4).bind fun bt421 => (some bt421.1))
theorem spec_DrawIsExpr.mono : ∀ a0 k, LeO (spec_DrawIsExpr.f k a0) (spec_DrawIsExpr.f (k + 1) a0) := by
 intro a0 k
 unfold spec_DrawIsExpr.f
 repeat' first
   | (with_reducible exact spec_l1Cur_anyExpr.mono _ _ _ _ _)
   | (with_reducible exact LeO.refl _)
   | (with_reducible exact LeO.none _)
   | (with_reducible refine LeO.ite ?_ ?_)
   | (with_reducible refine LeO.bind ?_ (fun _ => ?_))
   | exact spec_l1Cur_anyExpr.mono _ _ _ _ _
   | exact LeO.none _
   | refine LeO.ite ?_ ?_
   | refine LeO.bind ?_ (fun _ => ?_)
set_option maxHeartbeats 8000000 in
set_option maxRecDepth 100000 in
theorem spec_DrawIsExpr.calls (k : Nat) (A0 : Option Addr) (c0 : Nat) (l0 : List Int) (r : List (S47)) (w : World) (hr0 : Kd.C (Kd.int .u8) w A0 l0.length l0) (hc0 : l0.length ≤ c0) (h : spec_DrawIsExpr.f k l0 = some r) :
  Calls Try.prog 63 #[.slice A0 l0.length c0] w fun e w' => ∃ v0_ : Value, e = .returned (v0_) ∧ Kd.R k47 47 w' w.heap.size (fun _ => True) v0_ r ∧ Below w.heap.size w w' := by
 have HR0 := zK hr0
 have HC0 := zK hc0
 clear hr0 hc0
 have HB := zK (Below.refl w.heap.size w)
 have H : ((spec_newstate.f l0).bind fun bt417 => ((spec_l1Cur_anyExpr.f k bt417.1 bt417.2.1 bt417.2.2 4).bind fun bt421 => (some bt421.1))) = some r := h
 clear h
 replace H := Option.bind_eq_some_iff.mp H
 obtain ⟨⟨t417, t418, t419⟩, A20, H⟩ := H
 replace H : ((spec_l1Cur_anyExpr.f k t417 t418 t419 4).bind fun bt421 => (some bt421.1)) = some r := H
 have A2 := zK A20
 clear A20
 replace H := Option.bind_eq_some_iff.mp H
 obtain ⟨⟨t421, t424, t425⟩, A30, H⟩ := H
 replace H : (some t421) = some r := H
 have A3 := zK A30
 clear A30
 obtain rfl := Option.some.inj H
 go_enter Try.func63, Try.ntmps63
 go_wp2_with (first | ((with_reducible refine gate_dst (N := 6) rfl ?_); refine box_event ?hg (N := 6) ?hd (cs := #[.slice A0 l0.length c0, .int .i64 0, .int .u64 0]) (t := 59) ?hr ?_; (case hd => rfl); (case hg => rfl); (case hr => first | (go_simp; done) | (go_simp; rfl)); intro g420 hg w4 hbox hb2; obtain ⟨hi, hb⟩ := spec_newstate.box hg hbox hb2 (by repeat (first | (with_reducible first | exact HB.out | apply zA | apply zB | apply zC) | exact HB.out)) HR0.out A2.out; clear hbox hg; have n0_ := zK (hb); have n1_ := zK (hi); clear HB; have HB := n0_; have HI420 := n1_; clear n0_ n1_; (try clear hb); (try clear hb2); (try clear hk); (try clear hi)) | ((with_reducible refine gate_callee (f := 54) rfl ?_); refine goesL_ (some 8) rfl rfl Try.func54 (by kernel_rfl) rfl #[.pointer (some ⟨g420, 0, none⟩), .int .i64 4] rfl (by (try simp only [z6, z7, z8]); first | done | rfl | (simp only [z4, z5]; rfl)) ?_; (with_reducible refine (spec_l1Cur_anyExpr.calls k g420 t417 t418 t419 4 t421 t424 t425 w _ ?side1 ?side2 A3.out).mono ?_); (case side1 => repeat (first | (with_reducible first | exact HI420.out | apply IsS59.alloc | apply IsS59.drewN | apply IsS59.drew | apply IsS59.set_1 | apply IsS59.set_2) | exact HI420.out)); (case side2 => repeat (first | (with_reducible first | exact HB.out | apply zA | apply zB | apply zC | refine zD ?_ (IsS59.ge HI420.out)) | exact HB.out)); rintro e w5 ⟨v422, rfl, ho0, hi, hb, hk⟩; refine ⟨_, rfl, ?_⟩; have n0_ := zK (Kd.R_lower ho0 (zN (by repeat (first | (with_reducible first | exact HB.out | apply zA | apply zB | apply zC | refine zD ?_ (IsS59.ge HI420.out)) | exact HB.out)))); have n1_ := zK (hb); have n2_ := zK (hi); clear HB; clear HI420; have HO423 := n0_; have HB := n1_; have HI420 := n2_; clear n0_ n1_ n2_; (try clear hb); (try clear hb2); (try clear hk); (try clear hi); (try clear ho0)))
 go_ret
 exact ⟨_, by first | rfl | (simp [errW_none, errW_some] <;> rfl) | (simp [*, errW_none, errW_some] <;> rfl), by (with_reducible repeat (first | apply Kd.R_alloc | apply Kd.R_drewN | apply Kd.R_drew)); exact HO423.out, by repeat (first | (with_reducible first | exact HB.out | apply zA | apply zB | apply zC | refine zD ?_ (IsS59.ge HI420.out)) | exact HB.out)⟩

/-! ### spec_DrawUsesOf: function 13 -/
def spec_DrawUsesOf.f (k : Nat) (l0 : List Int) : Option ((List (S47))) := (spec_DrawIsExpr.f k l0).bind fun t426 => (some t426)
theorem spec_DrawUsesOf.mono : ∀ a0 k, LeO (spec_DrawUsesOf.f k a0) (spec_DrawUsesOf.f (k + 1) a0) := by
 intro a0 k
 unfold spec_DrawUsesOf.f
 repeat' first
   | (with_reducible exact spec_DrawIsExpr.mono _ _)
   | (with_reducible exact LeO.refl _)
   | (with_reducible exact LeO.none _)
   | (with_reducible refine LeO.ite ?_ ?_)
   | (with_reducible refine LeO.bind ?_ (fun _ => ?_))
   | exact spec_DrawIsExpr.mono _ _
   | exact LeO.none _
   | refine LeO.ite ?_ ?_
   | refine LeO.bind ?_ (fun _ => ?_)
set_option maxHeartbeats 8000000 in
set_option maxRecDepth 100000 in
theorem spec_DrawUsesOf.calls (k : Nat) (A0 : Option Addr) (c0 : Nat) (l0 : List Int) (r : List (S47)) (w : World) (hr0 : Kd.C (Kd.int .u8) w A0 l0.length l0) (hc0 : l0.length ≤ c0) (h : spec_DrawUsesOf.f k l0 = some r) :
  Calls Try.prog 13 #[.slice A0 l0.length c0] w fun e w' => ∃ v0_ : Value, e = .returned (v0_) ∧ Kd.R k47 47 w' w.heap.size (fun _ => True) v0_ r ∧ Below w.heap.size w w' := by
 have HR0 := zK hr0
 have HC0 := zK hc0
 clear hr0 hc0
 have HB := zK (Below.refl w.heap.size w)
 have H : ((spec_DrawIsExpr.f k l0).bind fun t426 => (some t426)) = some r := h
 clear h
 replace H := Option.bind_eq_some_iff.mp H
 obtain ⟨t426, A20, H⟩ := H
 replace H : (some t426) = some r := H
 have A2 := zK A20
 clear A20
 obtain rfl := Option.some.inj H
 go_enter Try.func13, Try.ntmps13
 go_wp2_with (first | ((with_reducible refine gate_callee (f := 63) rfl ?_); refine goesL_ (some 4) rfl rfl Try.func63 (by kernel_rfl) rfl #[.slice A0 l0.length c0] rfl (by (try simp only [z6, z7, z8]); first | done | rfl | (simp only [z4, z5]; rfl)) ?_; (with_reducible refine (spec_DrawIsExpr.calls k _ _ l0 t426 _ ?side1 ?side2 A2.out).mono ?_); (case side1 => repeat (first | exact HR0.out | (with_reducible refine Kd.C_alloc ?_ _) | (with_reducible refine Kd.C_drewN ?_ _) | (with_reducible refine Kd.C_drew ?_))); (case side2 => exact HC0.out); rintro e w3 ⟨v427, rfl, ho0, hb⟩; refine ⟨_, rfl, ?_⟩; have n0_ := zK (Kd.R_lower ho0 (zN (by repeat (first | (with_reducible first | exact HB.out | apply zA | apply zB | apply zC) | exact HB.out)))); have n1_ := zK (zL (by repeat (first | (with_reducible first | exact HB.out | apply zA | apply zB | apply zC) | exact HB.out)) hb); clear HB; have HO428 := n0_; have HB := n1_; clear n0_ n1_; (try clear hb); (try clear hb2); (try clear hk); (try clear hi); (try clear ho0)))
 go_ret
 exact ⟨_, by first | rfl | (simp [errW_none, errW_some] <;> rfl) | (simp [*, errW_none, errW_some] <;> rfl), by (with_reducible repeat (first | apply Kd.R_alloc | apply Kd.R_drewN | apply Kd.R_drew)); exact HO428.out, by repeat (first | (with_reducible first | exact HB.out | apply zA | apply zB | apply zC) | exact HB.out)⟩

/-! ### impl_UsesOf: function 14 -/
def impl_UsesOf.f (k : Nat) (l0 : List (S47)) : Option (List Int × Bool) := (impl_IsExpr.f k l0).bind fun t429 => (if t429 = true then ((impl_uses.f k l0).bind fun t430 => (some (t430, true))) else (some (([] : List Int), false)))
theorem impl_UsesOf.mono : ∀ a0 k, LeO (impl_UsesOf.f k a0) (impl_UsesOf.f (k + 1) a0) := by
 intro a0 k
 unfold impl_UsesOf.f
 repeat' first
   | (with_reducible exact impl_IsExpr.mono _ _)
   | (with_reducible exact impl_uses.mono _ _)
   | (with_reducible exact LeO.refl _)
   | (with_reducible exact LeO.none _)
   | (with_reducible refine LeO.ite ?_ ?_)
   | (with_reducible refine LeO.bind ?_ (fun _ => ?_))
   | exact impl_IsExpr.mono _ _
   | exact impl_uses.mono _ _
   | exact LeO.none _
   | refine LeO.ite ?_ ?_
   | refine LeO.bind ?_ (fun _ => ?_)
set_option maxHeartbeats 8000000 in
set_option maxRecDepth 100000 in
theorem impl_UsesOf.calls (k : Nat) (A0 : Option Addr) (c0 : Nat) (l0 : List (S47)) (r1 : List Int) (r2 : Bool) (w : World) (hr0 : Kd.C k47 w A0 l0.length l0) (hc0 : l0.length ≤ c0) (h : impl_UsesOf.f k l0 = some (r1, r2)) :
  Calls Try.prog 14 #[.slice A0 l0.length c0] w fun e w' => ∃ v0_ : Value, e = .returned (.tuple #[v0_, .bool r2]) ∧ Kd.R (Kd.int .i64) 3 w' w.heap.size (fun _ => True) v0_ r1 ∧ Below w.heap.size w w' := by
 have HR0 := zK hr0
 have HC0 := zK hc0
 clear hr0 hc0
 have HB := zK (Below.refl w.heap.size w)
 have H : ((impl_IsExpr.f k l0).bind fun t429 => (if t429 = true then ((impl_uses.f k l0).bind fun t430 => (some (t430, true))) else (some (([] : List Int), false)))) = some (r1, r2) := h
 clear h
 replace H := Option.bind_eq_some_iff.mp H
 obtain ⟨t429, A20, H⟩ := H
 replace H : (if t429 = true then ((impl_uses.f k l0).bind fun t430 => (some (t430, true))) else (some (([] : List Int), false))) = some (r1, r2) := H
 have A2 := zK A20
 clear A20
 by_cases c3 : t429 = true
 ·subst c3
  have H1 : ((impl_uses.f k l0).bind fun t430 => (some (t430, true))) = some (r1, r2) := by rw [if_pos rfl] at H; exact H
  clear H
  have H := H1
  clear H1
  replace H := Option.bind_eq_some_iff.mp H
  obtain ⟨t430, A40, H⟩ := H
  replace H : (some (t430, true)) = some (r1, r2) := H
  have A4 := zK A40
  clear A40
  simp only [Option.some.injEq, Prod.mk.injEq] at H
  obtain ⟨rfl, rfl⟩ := H
  go_enter Try.func14, Try.ntmps14
  go_wp2_with (first | ((with_reducible refine gate_callee (f := 20) rfl ?_); refine goesL_ (some 5) rfl rfl Try.func20 (by kernel_rfl) rfl #[.slice A0 l0.length c0] rfl (by (try simp only [z6, z7, z8]); first | done | rfl | (simp only [z4, z5]; rfl)) ?_; (with_reducible refine (impl_IsExpr.calls k _ _ l0 true _ ?side1 ?side2 A2.out).mono ?_); (case side1 => repeat (first | exact HR0.out | (with_reducible refine Kd.C_alloc ?_ _) | (with_reducible refine Kd.C_drewN ?_ _) | (with_reducible refine Kd.C_drew ?_))); (case side2 => exact HC0.out); rintro e w5 ⟨rfl, hb⟩; refine ⟨_, rfl, ?_⟩; have n0_ := zK (zL (by repeat (first | (with_reducible first | exact HB.out | apply zA | apply zB | apply zC) | exact HB.out)) hb); clear HB; have HB := n0_; clear n0_; (try clear hb); (try clear hb2); (try clear hk); (try clear hi)) | ((with_reducible refine gate_callee (f := 64) rfl ?_); refine goesL_ (some 8) rfl rfl Try.func64 (by kernel_rfl) rfl #[.slice A0 l0.length c0] rfl (by (try simp only [z6, z7, z8]); first | done | rfl | (simp only [z4, z5]; rfl)) ?_; (with_reducible refine (impl_uses.calls k _ _ l0 t430 _ ?side1 ?side2 A4.out).mono ?_); (case side1 => repeat (first | exact (Kd.C_below HR0.out HB.out) | (with_reducible refine Kd.C_alloc ?_ _) | (with_reducible refine Kd.C_drewN ?_ _) | (with_reducible refine Kd.C_drew ?_))); (case side2 => exact HC0.out); rintro e w6 ⟨v431, rfl, ho0, hb⟩; refine ⟨_, rfl, ?_⟩; have n0_ := zK (Kd.R_lower ho0 (zN (by repeat (first | (with_reducible first | exact HB.out | apply zA | apply zB | apply zC) | exact HB.out)))); have n1_ := zK (zL (by repeat (first | (with_reducible first | exact HB.out | apply zA | apply zB | apply zC) | exact HB.out)) hb); clear HB; have HO432 := n0_; have HB := n1_; clear n0_ n1_; (try clear hb); (try clear hb2); (try clear hk); (try clear hi); (try clear ho0)))
  go_ret2
  exact ⟨_, by first | rfl | (simp [errW_none, errW_some] <;> rfl) | (simp [*, errW_none, errW_some] <;> rfl), by (with_reducible repeat (first | apply Kd.R_alloc | apply Kd.R_drewN | apply Kd.R_drew)); exact HO432.out, by repeat (first | (with_reducible first | exact HB.out | apply zA | apply zB | apply zC) | exact HB.out)⟩
 ·replace c3 := Bool.eq_false_iff.mpr c3
  subst c3
  have H1 : (some (([] : List Int), false)) = some (r1, r2) := by rw [if_neg (show ¬ (false = true) by decide)] at H; exact H
  clear H
  have H := H1
  clear H1
  simp only [Option.some.injEq, Prod.mk.injEq] at H
  obtain ⟨rfl, rfl⟩ := H
  go_enter Try.func14, Try.ntmps14
  go_wp2_with (first | ((with_reducible refine gate_callee (f := 20) rfl ?_); refine goesL_ (some 5) rfl rfl Try.func20 (by kernel_rfl) rfl #[.slice A0 l0.length c0] rfl (by (try simp only [z6, z7, z8]); first | done | rfl | (simp only [z4, z5]; rfl)) ?_; (with_reducible refine (impl_IsExpr.calls k _ _ l0 false _ ?side1 ?side2 A2.out).mono ?_); (case side1 => repeat (first | exact HR0.out | (with_reducible refine Kd.C_alloc ?_ _) | (with_reducible refine Kd.C_drewN ?_ _) | (with_reducible refine Kd.C_drew ?_))); (case side2 => exact HC0.out); rintro e w7 ⟨rfl, hb⟩; refine ⟨_, rfl, ?_⟩; have n0_ := zK (zL (by repeat (first | (with_reducible first | exact HB.out | apply zA | apply zB | apply zC) | exact HB.out)) hb); clear HB; have HB := n0_; clear n0_; (try clear hb); (try clear hb2); (try clear hk); (try clear hi)))
  go_ret2
  exact ⟨_, by first | rfl | (simp [errW_none, errW_some] <;> rfl) | (simp [*, errW_none, errW_some] <;> rfl), by first | exact Kd.R_nil _ _ _ _ _ | exact Kd.N_nil _ _ _ _ _ | exact Kd.V_nil _ _ _ _ _ | exact Kd.Q_nil _ _ _ _ _ | exact Kd.S_nil _ _ _ _ _, by repeat (first | (with_reducible first | exact HB.out | apply zA | apply zB | apply zC) | exact HB.out)⟩

/-! ### spec_UsesOf: function 15 -/
def spec_UsesOf.f (k : Nat) (l0 : List (S47)) : Option (List Int × Bool) := (spec_exGood.f k l0).bind fun t433 => (if t433 = true then ((spec_exUses.f k l0).bind fun t434 => (some (t434, true))) else (some (([] : List Int), false)))
theorem spec_UsesOf.mono : ∀ a0 k, LeO (spec_UsesOf.f k a0) (spec_UsesOf.f (k + 1) a0) := by
 intro a0 k
 unfold spec_UsesOf.f
 repeat' first
   | (with_reducible exact spec_exGood.mono _ _)
   | (with_reducible exact spec_exUses.mono _ _)
   | (with_reducible exact LeO.refl _)
   | (with_reducible exact LeO.none _)
   | (with_reducible refine LeO.ite ?_ ?_)
   | (with_reducible refine LeO.bind ?_ (fun _ => ?_))
   | exact spec_exGood.mono _ _
   | exact spec_exUses.mono _ _
   | exact LeO.none _
   | refine LeO.ite ?_ ?_
   | refine LeO.bind ?_ (fun _ => ?_)
set_option maxHeartbeats 8000000 in
set_option maxRecDepth 100000 in
theorem spec_UsesOf.calls (k : Nat) (A0 : Option Addr) (c0 : Nat) (l0 : List (S47)) (r1 : List Int) (r2 : Bool) (w : World) (hr0 : Kd.C k47 w A0 l0.length l0) (hc0 : l0.length ≤ c0) (h : spec_UsesOf.f k l0 = some (r1, r2)) :
  Calls Try.prog 15 #[.slice A0 l0.length c0] w fun e w' => ∃ v0_ : Value, e = .returned (.tuple #[v0_, .bool r2]) ∧ Kd.R (Kd.int .i64) 3 w' w.heap.size (fun _ => True) v0_ r1 ∧ Below w.heap.size w w' := by
 have HR0 := zK hr0
 have HC0 := zK hc0
 clear hr0 hc0
 have HB := zK (Below.refl w.heap.size w)
 have H : ((spec_exGood.f k l0).bind fun t433 => (if t433 = true then ((spec_exUses.f k l0).bind fun t434 => (some (t434, true))) else (some (([] : List Int), false)))) = some (r1, r2) := h
 clear h
 replace H := Option.bind_eq_some_iff.mp H
 obtain ⟨t433, A20, H⟩ := H
 replace H : (if t433 = true then ((spec_exUses.f k l0).bind fun t434 => (some (t434, true))) else (some (([] : List Int), false))) = some (r1, r2) := H
 have A2 := zK A20
 clear A20
 by_cases c3 : t433 = true
 ·subst c3
  have H1 : ((spec_exUses.f k l0).bind fun t434 => (some (t434, true))) = some (r1, r2) := by rw [if_pos rfl] at H; exact H
  clear H
  have H := H1
  clear H1
  replace H := Option.bind_eq_some_iff.mp H
  obtain ⟨t434, A40, H⟩ := H
  replace H : (some (t434, true)) = some (r1, r2) := H
  have A4 := zK A40
  clear A40
  simp only [Option.some.injEq, Prod.mk.injEq] at H
  obtain ⟨rfl, rfl⟩ := H
  go_enter Try.func15, Try.ntmps15
  go_wp2_with (first | ((with_reducible refine gate_callee (f := 60) rfl ?_); refine goesL_ (some 5) rfl rfl Try.func60 (by kernel_rfl) rfl #[.slice A0 l0.length c0] rfl (by (try simp only [z6, z7, z8]); first | done | rfl | (simp only [z4, z5]; rfl)) ?_; (with_reducible refine (spec_exGood.calls k _ _ l0 true _ ?side1 ?side2 A2.out).mono ?_); (case side1 => repeat (first | exact HR0.out | (with_reducible refine Kd.C_alloc ?_ _) | (with_reducible refine Kd.C_drewN ?_ _) | (with_reducible refine Kd.C_drew ?_))); (case side2 => exact HC0.out); rintro e w5 ⟨rfl, hb⟩; refine ⟨_, rfl, ?_⟩; have n0_ := zK (zL (by repeat (first | (with_reducible first | exact HB.out | apply zA | apply zB | apply zC) | exact HB.out)) hb); clear HB; have HB := n0_; clear n0_; (try clear hb); (try clear hb2); (try clear hk); (try clear hi)) | ((with_reducible refine gate_callee (f := 65) rfl ?_); refine goesL_ (some 8) rfl rfl Try.func65 (by kernel_rfl) rfl #[.slice A0 l0.length c0] rfl (by (try simp only [z6, z7, z8]); first | done | rfl | (simp only [z4, z5]; rfl)) ?_; (with_reducible refine (spec_exUses.calls k _ _ l0 t434 _ ?side1 ?side2 A4.out).mono ?_); (case side1 => repeat (first | exact (Kd.C_below HR0.out HB.out) | (with_reducible refine Kd.C_alloc ?_ _) | (with_reducible refine Kd.C_drewN ?_ _) | (with_reducible refine Kd.C_drew ?_))); (case side2 => exact HC0.out); rintro e w6 ⟨v435, rfl, ho0, hb⟩; refine ⟨_, rfl, ?_⟩; have n0_ := zK (Kd.R_lower ho0 (zN (by repeat (first | (with_reducible first | exact HB.out | apply zA | apply zB | apply zC) | exact HB.out)))); have n1_ := zK (zL (by repeat (first | (with_reducible first | exact HB.out | apply zA | apply zB | apply zC) | exact HB.out)) hb); clear HB; have HO436 := n0_; have HB := n1_; clear n0_ n1_; (try clear hb); (try clear hb2); (try clear hk); (try clear hi); (try clear ho0)))
  go_ret2
  exact ⟨_, by first | rfl | (simp [errW_none, errW_some] <;> rfl) | (simp [*, errW_none, errW_some] <;> rfl), by (with_reducible repeat (first | apply Kd.R_alloc | apply Kd.R_drewN | apply Kd.R_drew)); exact HO436.out, by repeat (first | (with_reducible first | exact HB.out | apply zA | apply zB | apply zC) | exact HB.out)⟩
 ·replace c3 := Bool.eq_false_iff.mpr c3
  subst c3
  have H1 : (some (([] : List Int), false)) = some (r1, r2) := by rw [if_neg (show ¬ (false = true) by decide)] at H; exact H
  clear H
  have H := H1
  clear H1
  simp only [Option.some.injEq, Prod.mk.injEq] at H
  obtain ⟨rfl, rfl⟩ := H
  go_enter Try.func15, Try.ntmps15
  go_wp2_with (first | ((with_reducible refine gate_callee (f := 60) rfl ?_); refine goesL_ (some 5) rfl rfl Try.func60 (by kernel_rfl) rfl #[.slice A0 l0.length c0] rfl (by (try simp only [z6, z7, z8]); first | done | rfl | (simp only [z4, z5]; rfl)) ?_; (with_reducible refine (spec_exGood.calls k _ _ l0 false _ ?side1 ?side2 A2.out).mono ?_); (case side1 => repeat (first | exact HR0.out | (with_reducible refine Kd.C_alloc ?_ _) | (with_reducible refine Kd.C_drewN ?_ _) | (with_reducible refine Kd.C_drew ?_))); (case side2 => exact HC0.out); rintro e w7 ⟨rfl, hb⟩; refine ⟨_, rfl, ?_⟩; have n0_ := zK (zL (by repeat (first | (with_reducible first | exact HB.out | apply zA | apply zB | apply zC) | exact HB.out)) hb); clear HB; have HB := n0_; clear n0_; (try clear hb); (try clear hb2); (try clear hk); (try clear hi)))
  go_ret2
  exact ⟨_, by first | rfl | (simp [errW_none, errW_some] <;> rfl) | (simp [*, errW_none, errW_some] <;> rfl), by first | exact Kd.R_nil _ _ _ _ _ | exact Kd.N_nil _ _ _ _ _ | exact Kd.V_nil _ _ _ _ _ | exact Kd.Q_nil _ _ _ _ _ | exact Kd.S_nil _ _ _ _ _, by repeat (first | (with_reducible first | exact HB.out | apply zA | apply zB | apply zC) | exact HB.out)⟩

/-! ### impl_isTree_c1: function 114 -/
def impl_isTree_c1.f (a0 : Int) : Option (Bool) := some (decide (a0 > 1))
set_option maxHeartbeats 8000000 in
set_option maxRecDepth 100000 in
theorem impl_isTree_c1.calls (a0 : Int) (r : Bool) (w : World) (h : impl_isTree_c1.f a0 = some r) :
  Calls Try.prog 114 #[.int .i64 a0] w fun e w' => e = .returned (.bool r) ∧ Drawn0 w w' := by
 have H : (some (decide (a0 > 1))) = some r := h
 clear h
 obtain rfl := Option.some.inj H
 go_enter Try.func114, Try.ntmps114
 go_wp2
 go_ret
 exact ⟨by first | rfl | (simp; done) | (simp [*]; done), by repeat (first | exact Drawn0.refl _ | apply Drawn0.step)⟩

/-! ### slices_IndexFunc_int_int_impl_isTree_c1: function 156 -/
def slices_IndexFunc_int_int_impl_isTree_c1.l0 : Nat → List Int → Int → Int → Option (Int)
 | 0, _, _, _ => none
 | k + 1, x0, x7, x8 => if x8 < x7 then (if 0 ≤ x8 then (if x8 < (x0.length : Int) then ((impl_isTree_c1.f (rd x0 x8)).bind fun t438 => (if t438 = true then (some x8) else (slices_IndexFunc_int_int_impl_isTree_c1.l0 k x0 x7 (wrap64 (x8 + 1))))) else (none)) else (none)) else (some (-1))
def slices_IndexFunc_int_int_impl_isTree_c1.f (k : Nat) (l0 : List Int) : Option (Int) := slices_IndexFunc_int_int_impl_isTree_c1.l0 k l0 (l0.length : Int) 0
theorem slices_IndexFunc_int_int_impl_isTree_c1.mono_l : ∀ k, (∀ y0 y1 y2, LeO (slices_IndexFunc_int_int_impl_isTree_c1.l0 k y0 y1 y2) (slices_IndexFunc_int_int_impl_isTree_c1.l0 (k + 1) y0 y1 y2))
 | 0 => fun _ _ _ r h => by simp [slices_IndexFunc_int_int_impl_isTree_c1.l0] at h
 | k + 1 => by
  have ih0 := slices_IndexFunc_int_int_impl_isTree_c1.mono_l k
  ·intro y0 y1 y2
   unfold slices_IndexFunc_int_int_impl_isTree_c1.l0
   repeat' first
   | (with_reducible exact ih0 _ _ _)
   | (with_reducible exact LeO.refl _)
   | (with_reducible exact LeO.none _)
   | (with_reducible refine LeO.ite ?_ ?_)
   | (with_reducible refine LeO.bind ?_ (fun _ => ?_))
   | exact ih0 _ _ _
   | exact LeO.none _
   | refine LeO.ite ?_ ?_
   | refine LeO.bind ?_ (fun _ => ?_)
theorem slices_IndexFunc_int_int_impl_isTree_c1.mono : ∀ a0 k, LeO (slices_IndexFunc_int_int_impl_isTree_c1.f k a0) (slices_IndexFunc_int_int_impl_isTree_c1.f (k + 1) a0) := by
 intro a0 k
 have ih0 := slices_IndexFunc_int_int_impl_isTree_c1.mono_l k
 unfold slices_IndexFunc_int_int_impl_isTree_c1.f
 repeat' first
   | (with_reducible exact ih0 _ _ _)
   | (with_reducible exact LeO.refl _)
   | (with_reducible exact LeO.none _)
   | (with_reducible refine LeO.ite ?_ ?_)
   | (with_reducible refine LeO.bind ?_ (fun _ => ?_))
   | exact ih0 _ _ _
   | exact LeO.none _
   | refine LeO.ite ?_ ?_
   | refine LeO.bind ?_ (fun _ => ?_)
set_option maxHeartbeats 8000000 in
set_option maxRecDepth 100000 in
theorem slices_IndexFunc_int_int_impl_isTree_c1.calls (k : Nat) (A0 : Option Addr) (c0 : Nat) (l0 : List Int) (r : Int) (w : World) (hr0 : Kd.C (Kd.int .i64) w A0 l0.length l0) (hc0 : l0.length ≤ c0) (h : slices_IndexFunc_int_int_impl_isTree_c1.f k l0 = some r) :
  Calls Try.prog 131 #[.slice A0 l0.length c0, .func (.func 114) #[] #[]] w fun e w' => e = .returned (.int .i64 r) ∧ Drawn0 w w' := by
 have HR0 := zK hr0
 have HC0 := zK hc0
 clear hr0 hc0
 have H : (slices_IndexFunc_int_int_impl_isTree_c1.l0 k l0 (l0.length : Int) 0) = some r := h
 clear h
 have H' := zK H
 clear H
 go_enter Try.func131, Try.ntmps131
 go_wp2
 go_loopg [8] k (fun kq v8 w' => ∃ (x8_1 : Int), v8 = .int .i64 x8_1 ∧ Aside0 (slices_IndexFunc_int_int_impl_isTree_c1.l0 kq l0 (l0.length : Int) x8_1 = some r) ∧ Aside0 (kq ≤ k) ∧ Drawn0 w w')
 case atStart => exact ⟨(0), (by first | rfl | (simp; done) | (simp [*]; done)), H', ⟨Nat.le_refl _⟩, by repeat (first | exact Drawn0.refl _ | apply Drawn0.step)⟩
 case round =>
  clear H'
  try clear c1
  obtain ⟨x8_1, rfl, HA, HK1, ⟨m1, rfl⟩⟩ := hrel
  cases gk with
  | zero => exact absurd HA.out (by simp [slices_IndexFunc_int_int_impl_isTree_c1.l0])
  | succ k1 =>
   have H := HA.out
   clear HA
   simp only [slices_IndexFunc_int_int_impl_isTree_c1.l0] at H
   by_cases c2 : x8_1 < (l0.length : Int)
   ·rw [if_pos c2] at H
    have c2b0 : decide (x8_1 < (l0.length : Int)) = true := decide_eq_true c2
    clear c2
    by_cases c3 : 0 ≤ x8_1
    ·rw [if_pos c3] at H
     have c3b0 : decide (0 ≤ x8_1) = true := decide_eq_true c3
     clear c3
     by_cases c4 : x8_1 < (l0.length : Int)
     ·rw [if_pos c4] at H
      have c4b0 : decide (x8_1 < (l0.length : Int)) = true := decide_eq_true c4
      clear c4
      replace H := Option.bind_eq_some_iff.mp H
      obtain ⟨t438, A50, H⟩ := H
      replace H : (if t438 = true then (some x8_1) else (slices_IndexFunc_int_int_impl_isTree_c1.l0 k1 l0 (l0.length : Int) (wrap64 (x8_1 + 1)))) = some r := H
      have A5 := zK A50
      clear A50
      by_cases c6 : t438 = true
      ·subst c6
       have H1 : (some x8_1) = some r := by rw [if_pos rfl] at H; exact H
       clear H
       have H := H1
       clear H1
       obtain rfl := Option.some.inj H
       have p437 : 0 ≤ (x8_1 : Int) := zo
       have q437 : x8_1 < (l0.length : Int) := zo
       obtain ⟨ad437, e437, hx437_0⟩ := Kd.at_int HR0.out x8_1 p437 q437
       cases e437
       replace p437 := eq_true p437
       replace q437 := eq_true q437
       go_wp2_with (first | (go_at_call 114; (with_reducible refine (impl_isTree_c1.calls (rd l0 x8_1) true _ A5.out).mono ?_); rintro e w' ⟨rfl, ⟨nd, rfl⟩⟩))
       go_ret
       exact ⟨by first | rfl | (simp; done) | (simp [*]; done), by repeat (first | exact Drawn0.refl _ | apply Drawn0.step)⟩
      ·replace c6 := Bool.eq_false_iff.mpr c6
       subst c6
       have H1 : (slices_IndexFunc_int_int_impl_isTree_c1.l0 k1 l0 (l0.length : Int) (wrap64 (x8_1 + 1))) = some r := by rw [if_neg (show ¬ (false = true) by decide)] at H; exact H
       clear H
       have H := H1
       clear H1
       have H' := zK H
       clear H
       have p437 : 0 ≤ (x8_1 : Int) := zo
       have q437 : x8_1 < (l0.length : Int) := zo
       obtain ⟨ad437, e437, hx437_0⟩ := Kd.at_int HR0.out x8_1 p437 q437
       cases e437
       replace p437 := eq_true p437
       replace q437 := eq_true q437
       go_wp2_with (first | (go_at_call 114; (with_reducible refine (impl_isTree_c1.calls (rd l0 x8_1) false _ A5.out).mono ?_); rintro e w' ⟨rfl, ⟨nd, rfl⟩⟩))
       go_roundg k1
       case measure => have := HK1.out; omega
       case rel => exact ⟨(wrap64 (x8_1 + 1)), (by first | rfl | (simp; done) | (simp [*]; done)), H', ⟨by have := HK1.out; omega⟩, by repeat (first | exact Drawn0.refl _ | apply Drawn0.step)⟩
     ·rw [if_neg c4] at H
      exact absurd H (by simp)
    ·rw [if_neg c3] at H
     exact absurd H (by simp)
   ·rw [if_neg c2] at H
    have c2b0 : decide (x8_1 < (l0.length : Int)) = false := decide_eq_false c2
    clear c2
    obtain rfl := Option.some.inj H
    go_wp2
    go_ret
    exact ⟨by first | rfl | (simp; done) | (simp [*]; done), by repeat (first | exact Drawn0.refl _ | apply Drawn0.step)⟩

/-! ### slices_ContainsFunc_int_int_impl_isTree_c1: function 155 -/
def slices_ContainsFunc_int_int_impl_isTree_c1.f (k : Nat) (l0 : List Int) : Option (Bool) := (slices_IndexFunc_int_int_impl_isTree_c1.f k l0).bind fun t439 => (some (decide (t439 ≥ 0)))
theorem slices_ContainsFunc_int_int_impl_isTree_c1.mono : ∀ a0 k, LeO (slices_ContainsFunc_int_int_impl_isTree_c1.f k a0) (slices_ContainsFunc_int_int_impl_isTree_c1.f (k + 1) a0) := by
 intro a0 k
 unfold slices_ContainsFunc_int_int_impl_isTree_c1.f
 repeat' first
   | (with_reducible exact slices_IndexFunc_int_int_impl_isTree_c1.mono _ _)
   | (with_reducible exact LeO.refl _)
   | (with_reducible exact LeO.none _)
   | (with_reducible refine LeO.ite ?_ ?_)
   | (with_reducible refine LeO.bind ?_ (fun _ => ?_))
   | exact slices_IndexFunc_int_int_impl_isTree_c1.mono _ _
   | exact LeO.none _
   | refine LeO.ite ?_ ?_
   | refine LeO.bind ?_ (fun _ => ?_)
set_option maxHeartbeats 8000000 in
set_option maxRecDepth 100000 in
theorem slices_ContainsFunc_int_int_impl_isTree_c1.calls (k : Nat) (A0 : Option Addr) (c0 : Nat) (l0 : List Int) (r : Bool) (w : World) (hr0 : Kd.C (Kd.int .i64) w A0 l0.length l0) (hc0 : l0.length ≤ c0) (h : slices_ContainsFunc_int_int_impl_isTree_c1.f k l0 = some r) :
  Calls Try.prog 113 #[.slice A0 l0.length c0, .func (.func 114) #[] #[]] w fun e w' => e = .returned (.bool r) ∧ Drawn0 w w' := by
 have HR0 := zK hr0
 have HC0 := zK hc0
 clear hr0 hc0
 have H : ((slices_IndexFunc_int_int_impl_isTree_c1.f k l0).bind fun t439 => (some (decide (t439 ≥ 0)))) = some r := h
 clear h
 replace H := Option.bind_eq_some_iff.mp H
 obtain ⟨t439, A20, H⟩ := H
 replace H : (some (decide (t439 ≥ 0))) = some r := H
 have A2 := zK A20
 clear A20
 obtain rfl := Option.some.inj H
 go_enter Try.func113, Try.ntmps113
 go_wp2_with (first | ((with_reducible refine gate_callee (f := 131) rfl ?_); refine goesL_ (some 7) rfl rfl Try.func131 (by kernel_rfl) rfl #[.slice A0 l0.length c0, .func (.func 114) #[] #[]] rfl (by (try simp only [z6, z7, z8]); first | done | rfl | (simp only [z4, z5]; rfl)) ?_; (with_reducible refine (slices_IndexFunc_int_int_impl_isTree_c1.calls k _ _ l0 t439 _ ?side1 ?side2 A2.out).mono ?_); (case side1 => repeat (first | exact HR0.out | (with_reducible refine Kd.C_alloc ?_ _) | (with_reducible refine Kd.C_drewN ?_ _) | (with_reducible refine Kd.C_drew ?_))); (case side2 => exact HC0.out); rintro e w' ⟨rfl, ⟨nd, rfl⟩⟩; refine ⟨_, rfl, ?_⟩))
 go_ret
 exact ⟨by first | rfl | (simp; done) | (simp [*]; done), by repeat (first | exact Drawn0.refl _ | apply Drawn0.step)⟩

end Go.Proofs.Ytlcplhcccgbmnaa.B
