/- Contracts: laws_FnFoldedExpressions. -/
import Derived.Test.YtlcplhcccgbmnaaDK
import Derived.Test.YtlcplhcccgbmnaaDLawsBig
import Derived.Test.YtlcplhcccgbmnaaDImplIsExpr
import Derived.Test.YtlcplhcccgbmnaaDSpecL1CurAnyExpr
import Derived.Test.YtlcplhcccgbmnaaDImplFold
import Derived.Test.YtlcplhcccgbmnaaDSpecFoldExpr
import Derived.Test.YtlcplhcccgbmnaaDSpecInputsOf
namespace Go.Proofs.Ytlcplhcccgbmnaa.D
open Go.RowKit Go.Proofs.YtlcplhcccgbmnaaW.PrintWords Go.Proofs.YtlcplhcccgbmnaaW.PrintLast Go.Proofs.YtlcplhcccgbmnaaW.PrintMore
attribute [local go_sem] max2_int min2_int max_two min_two max_three min_three max_four min_four   -- for this text's walks alone
set_option linter.unusedVariables false
set_option linter.unusedSimpArgs false

/-! ### laws_FnFoldedExpressions: function 6 -/
mutual
def laws_FnFoldedExpressions.j0 : Nat → List Int → List (S47) → List (S47) → Bool → Bool → Option (Bool)
 | 0, _, _, _, _, _ => none
 | k + 1, x1, x5, x6, x9, x56 => if x56 = true then (some false) else ((spec_DrawCountOps.f k x1).bind fun t628 => ((impl_CountOps.f k t628).bind fun bt631 => ((spec_CountOps.f k t628).bind fun bt633 => ((impl_InputsOf.f k t628).bind fun bt635 => ((spec_InputsOf.f k t628).bind fun bt639 => ((impl_DepthOf.f k t628).bind fun bt643 => ((spec_DepthOf.f k t628).bind fun bt645 => (if (bt631.2 != bt633.2) = true then (laws_FnFoldedExpressions.j1 k x5 x6 x9 true) else (if bt631.1 = bt633.1 then (if (bt635.2 != bt639.2) = true then (laws_FnFoldedExpressions.j1 k x5 x6 x9 true) else ((laws_pSame.f k bt635.1 bt639.1).bind fun t647 => (if t647 = true then (if (bt643.2 != bt645.2) = true then (laws_FnFoldedExpressions.j1 k x5 x6 x9 true) else (if bt643.1 = bt645.1 then (if bt631.2 = true then (laws_FnFoldedExpressions.j1 k x5 x6 x9 (decide (bt643.1 > bt631.1))) else (laws_FnFoldedExpressions.j1 k x5 x6 x9 false)) else (laws_FnFoldedExpressions.j1 k x5 x6 x9 true))) else (laws_FnFoldedExpressions.j1 k x5 x6 x9 true)))) else (laws_FnFoldedExpressions.j1 k x5 x6 x9 true))))))))))
def laws_FnFoldedExpressions.j1 : Nat → List (S47) → List (S47) → Bool → Bool → Option (Bool)
 | 0, _, _, _, _ => none
 | k + 1, x5, x6, x9, x125 => if x125 = true then (some false) else (if x9 = true then ((impl_FoldExpr.f k x6).bind fun bt648 => ((impl_CountOps.f k x5).bind fun bt652 => ((impl_CountOps.f k x6).bind fun bt654 => (if bt648.2 = true then (if bt652.2 = true then (if bt654.2 = true then (if bt654.1 > bt652.1 then (laws_FnFoldedExpressions.j2 k x6 true) else ((laws_pSameExpr.f k bt648.1 x6).bind fun t656 => (if t656 = true then ((laws_pTable.f k x6).bind fun t657 => ((laws_pTable.f k x5).bind fun t660 => ((laws_pSame.f k t657 t660).bind fun t663 => (laws_FnFoldedExpressions.j2 k x6 (!t663))))) else (laws_FnFoldedExpressions.j2 k x6 true)))) else (laws_FnFoldedExpressions.j2 k x6 true)) else (laws_FnFoldedExpressions.j2 k x6 true)) else (laws_FnFoldedExpressions.j2 k x6 true))))) else (some true))
def laws_FnFoldedExpressions.j2 : Nat → List (S47) → Bool → Option (Bool)
 | 0, _, _ => none
 | k + 1, x6, x171 => if x171 = true then (some false) else ((impl_InputsOf.f k x6).bind fun bt664 => (if bt664.2 = true then (if (bt664.1.length : Int) = 0 then (laws_FnFoldedExpressions.j3 k x6 ((x6.length : Int) != 1)) else (laws_FnFoldedExpressions.j3 k x6 false)) else (laws_FnFoldedExpressions.j3 k x6 true)))
def laws_FnFoldedExpressions.j3 : Nat → List (S47) → Bool → Option (Bool)
 | 0, _, _ => none
 | k + 1, x6, x188 => if x188 = true then (some false) else (laws_FnFoldedExpressions.l0 k x6 x6 (x6.length : Int) 0)
def laws_FnFoldedExpressions.l0 : Nat → List (S47) → List (S47) → Int → Int → Option (Bool)
 | 0, _, _, _, _ => none
 | k + 1, x6, x189, x190, x191 => if x191 < x190 then (if 0 ≤ x191 then (if x191 < (x189.length : Int) then (if ((rd_T47 x189 x191).f0).toList = ([110, 111, 116] : List UInt8) then (laws_FnFoldedExpressions.j5 k x6 x189 x190 x191 true ((rd_T47 x189 x191).f0) ((rd_T47 x189 x191).f1) ((rd_T47 x189 x191).f2) ((rd_T47 x189 x191).f3)) else (laws_FnFoldedExpressions.j5 k x6 x189 x190 x191 (((rd_T47 x189 x191).f0).toList == ([110, 101, 103] : List UInt8)) ((rd_T47 x189 x191).f0) ((rd_T47 x189 x191).f1) ((rd_T47 x189 x191).f2) ((rd_T47 x189 x191).f3))) else (none)) else (none)) else (some true)
def laws_FnFoldedExpressions.j5 : Nat → List (S47) → List (S47) → Int → Int → Bool → ByteArray → Int → Int → Int → Option (Bool)
 | 0, _, _, _, _, _, _, _, _, _ => none
 | k + 1, x6, x189, x190, x191, x202, x670000, x670001, x670002, x670003 => if x202 = true then (if 0 ≤ x670001 then (if x670001 < (x6.length : Int) then (if ((rd_T47 x6 x670001).f0).toList = ([99, 111, 110, 115, 116] : List UInt8) then (some false) else (laws_FnFoldedExpressions.l0 k x6 x189 x190 (wrap64 (x191 + 1)))) else (none)) else (none)) else (if x670000.toList = ([105, 110] : List UInt8) then (laws_FnFoldedExpressions.l0 k x6 x189 x190 (wrap64 (x191 + 1))) else (if x670000.toList = ([99, 111, 110, 115, 116] : List UInt8) then (laws_FnFoldedExpressions.l0 k x6 x189 x190 (wrap64 (x191 + 1))) else (if 0 ≤ x670001 then (if x670001 < (x6.length : Int) then (if ((rd_T47 x6 x670001).f0).toList = ([99, 111, 110, 115, 116] : List UInt8) then (if 0 ≤ x670002 then (if x670002 < (x6.length : Int) then (if ((rd_T47 x6 x670002).f0).toList = ([99, 111, 110, 115, 116] : List UInt8) then (some false) else (laws_FnFoldedExpressions.l0 k x6 x189 x190 (wrap64 (x191 + 1)))) else (none)) else (none)) else (laws_FnFoldedExpressions.l0 k x6 x189 x190 (wrap64 (x191 + 1)))) else (none)) else (none))))
end
def laws_FnFoldedExpressions.f (k : Nat) (l0 : List Int) (l1 : List Int) : Option (Bool) := (laws_big.f l0 l1).bind fun t615 => (if t615 = true then (some true) else ((spec_DrawFoldExpr.f k l0).bind fun t616 => ((impl_FoldExpr.f k t616).bind fun bt619 => ((spec_FoldExpr.f k t616).bind fun bt623 => (if (bt619.2 != bt623.2) = true then (laws_FnFoldedExpressions.j0 k l1 t616 bt619.1 bt623.2 true) else ((laws_pSameExpr.f k bt619.1 bt623.1).bind fun t627 => (laws_FnFoldedExpressions.j0 k l1 t616 bt619.1 bt623.2 (!t627))))))))
set_option maxHeartbeats 8000000 in
set_option maxRecDepth 100000 in
theorem laws_FnFoldedExpressions.calls (k : Nat) (A0 : Option Addr) (c0 : Nat) (l0 : List Int) (A1 : Option Addr) (c1 : Nat) (l1 : List Int) (r : Bool) (w : World) (hr0 : Kd.C (Kd.int .u8) w A0 l0.length l0) (hc0 : l0.length ≤ c0) (hr1 : Kd.C (Kd.int .u8) w A1 l1.length l1) (hc1 : l1.length ≤ c1) (h : laws_FnFoldedExpressions.f k l0 l1 = some r) (hr : r = true) :
  Calls Try.prog 6 #[.slice A0 l0.length c0, .slice A1 l1.length c1] w fun e w' => e = .returned (.bool r) ∧ Below w.heap.size w w' := by
 have hu47 := Try.underlying47
 have HR0 := zK hr0
 have HC0 := zK hc0
 clear hr0 hc0
 have HR1 := zK hr1
 have HC1 := zK hc1
 clear hr1 hc1
 have HB := zK (Below.refl w.heap.size w)
 have H : ((laws_big.f l0 l1).bind fun t615 => (if t615 = true then (some true) else ((spec_DrawFoldExpr.f k l0).bind fun t616 => ((impl_FoldExpr.f k t616).bind fun bt619 => ((spec_FoldExpr.f k t616).bind fun bt623 => (if (bt619.2 != bt623.2) = true then (laws_FnFoldedExpressions.j0 k l1 t616 bt619.1 bt623.2 true) else ((laws_pSameExpr.f k bt619.1 bt623.1).bind fun t627 => (laws_FnFoldedExpressions.j0 k l1 t616 bt619.1 bt623.2 (!t627))))))))) = some r := h
 clear h
 replace H := Option.bind_eq_some_iff.mp H
 obtain ⟨t615, A30, H⟩ := H
 replace H : (if t615 = true then (some true) else ((spec_DrawFoldExpr.f k l0).bind fun t616 => ((impl_FoldExpr.f k t616).bind fun bt619 => ((spec_FoldExpr.f k t616).bind fun bt623 => (if (bt619.2 != bt623.2) = true then (laws_FnFoldedExpressions.j0 k l1 t616 bt619.1 bt623.2 true) else ((laws_pSameExpr.f k bt619.1 bt623.1).bind fun t627 => (laws_FnFoldedExpressions.j0 k l1 t616 bt619.1 bt623.2 (!t627)))))))) = some r := H
 have A3 := zK A30
 clear A30
 by_cases c4 : t615 = true
 ·subst c4
  rw [if_pos rfl] at H
  obtain rfl := Option.some.inj H
  go_enter Try.func6, Try.ntmps6
  go_wp2_with (first | ((with_reducible refine gate_callee (f := 8) rfl ?_); refine goesL_ (some 35) rfl rfl Try.func8 yi rfl #[.slice A0 l0.length c0, .slice A1 l1.length c1] rfl yb ?_; (with_reducible refine (laws_big.calls _ _ l0 _ _ l1 true _ ?side1 ?side2 ?side3 ?side4 A3.out).mono ?_); (case side1 => exact xxc); (case side2 => exact HC0.out); (case side3 => repeat (first | exact HR1.out | (with_reducible refine Kd.C_alloc ?_ _) | (with_reducible refine Kd.C_drewN ?_ _) | (with_reducible refine Kd.C_drew ?_))); (case side4 => exact HC1.out); rintro e w' ⟨rfl, ⟨nd, rfl⟩⟩; refine ⟨_, rfl, ?_⟩))
  go_ret
  exact ⟨yd, ya⟩
 ·replace c4 := Bool.eq_false_iff.mpr c4
  subst c4
  rw [if_neg (show ¬ (false = true) by decide)] at H
  replace H := Option.bind_eq_some_iff.mp H
  obtain ⟨t616, A50, H⟩ := H
  replace H : ((impl_FoldExpr.f k t616).bind fun bt619 => ((spec_FoldExpr.f k t616).bind fun bt623 => (if (bt619.2 != bt623.2) = true then (laws_FnFoldedExpressions.j0 k l1 t616 bt619.1 bt623.2 true) else ((laws_pSameExpr.f k bt619.1 bt623.1).bind fun t627 => (laws_FnFoldedExpressions.j0 k l1 t616 bt619.1 bt623.2 (!t627)))))) = some r := H
  have A5 := zK A50
  clear A50
  replace H := Option.bind_eq_some_iff.mp H
  obtain ⟨⟨t619, t620⟩, A60, H⟩ := H
  replace H : ((spec_FoldExpr.f k t616).bind fun bt623 => (if (t620 != bt623.2) = true then (laws_FnFoldedExpressions.j0 k l1 t616 t619 bt623.2 true) else ((laws_pSameExpr.f k t619 bt623.1).bind fun t627 => (laws_FnFoldedExpressions.j0 k l1 t616 t619 bt623.2 (!t627))))) = some r := H
  have A6 := zK A60
  clear A60
  replace H := Option.bind_eq_some_iff.mp H
  obtain ⟨⟨t623, t624⟩, A70, H⟩ := H
  replace H : (if (t620 != t624) = true then (laws_FnFoldedExpressions.j0 k l1 t616 t619 t624 true) else ((laws_pSameExpr.f k t619 t623).bind fun t627 => (laws_FnFoldedExpressions.j0 k l1 t616 t619 t624 (!t627)))) = some r := H
  have A7 := zK A70
  clear A70
  have HC8 := zK H
  clear H
  go_enter Try.func6, Try.ntmps6
  go_upto_region 6 with (first | ((with_reducible refine gate_callee (f := 8) rfl ?_); refine goesL_ (some 35) rfl rfl Try.func8 yi rfl #[.slice A0 l0.length c0, .slice A1 l1.length c1] rfl yb ?_; (with_reducible refine (laws_big.calls _ _ l0 _ _ l1 false _ ?side1 ?side2 ?side3 ?side4 A3.out).mono ?_); (case side1 => exact xxc); (case side2 => exact HC0.out); (case side3 => repeat (first | exact HR1.out | (with_reducible refine Kd.C_alloc ?_ _) | (with_reducible refine Kd.C_drewN ?_ _) | (with_reducible refine Kd.C_drew ?_))); (case side4 => exact HC1.out); rintro e w' ⟨rfl, ⟨nd, rfl⟩⟩; refine ⟨_, rfl, ?_⟩) | ((with_reducible refine gate_callee (f := 35) rfl ?_); refine goesL_ (some 37) rfl rfl Try.func35 yi rfl #[.slice A0 l0.length c0] rfl yb ?_; (with_reducible refine (spec_DrawFoldExpr.calls k _ _ l0 t616 _ ?side1 ?side2 A5.out).mono ?_); (case side1 => exact xxc); (case side2 => exact HC0.out); rintro e w9 ⟨v617, rfl, ho0, hb⟩; refine ⟨_, rfl, ?_⟩; have n0_ := zK (Kd.R_lower ho0 (zN ya)); have n1_ := zK (zL ya hb); clear HB; have HO618 := n0_; have HB := n1_; clear n0_ n1_; (try clear hb); (try clear hb2); (try clear hk); (try clear hi); (try clear ho0); obtain ⟨Ao10, co10, eo10⟩ := Kd.R_slice HO618.out; subst eo10) | ((with_reducible refine gate_callee (f := 36) rfl ?_); refine goesL_ (some 40) rfl rfl Try.func36 yi rfl #[.slice Ao10 t616.length co10] rfl yb ?_; (with_reducible refine (impl_FoldExpr.calls k _ _ t616 t619 t620 _ ?side1 ?side2 A6.out).mono ?_); (case side1 => repeat (first | exact (Kd.R_reads' HO618.out).2.2 | (with_reducible refine Kd.C_alloc ?_ _) | (with_reducible refine Kd.C_drewN ?_ _) | (with_reducible refine Kd.C_drew ?_))); (case side2 => exact (Kd.R_reads' HO618.out).2.1); rintro e w11 ⟨v621, rfl, ho0, hb⟩; refine ⟨_, rfl, ?_⟩; have n0_ := zK (Kd.R_elder' (yR HO618.out) (Kd.R_base ho0) hb); have n1_ := zK (Kd.R_lower (Kd.R_new' ho0 (Kd.R_lt (yR HO618.out))) (zN ya)); have n2_ := zK (zL ya hb); clear HO618; clear HB; have HO618 := n0_; have HO622 := n1_; have HB := n2_; clear n0_ n1_ n2_; (try clear hb); (try clear hb2); (try clear hk); (try clear hi); (try clear ho0)) | ((with_reducible refine gate_callee (f := 37) rfl ?_); refine goesL_ (some 45) rfl rfl Try.func37 yi rfl #[.slice Ao10 t616.length co10] rfl yb ?_; (with_reducible refine (spec_FoldExpr.calls k _ _ t616 t623 t624 _ ?side1 ?side2 A7.out).mono ?_); (case side1 => repeat (first | exact (Kd.R_reads' HO618.out).2.2 | (with_reducible refine Kd.C_alloc ?_ _) | (with_reducible refine Kd.C_drewN ?_ _) | (with_reducible refine Kd.C_drew ?_))); (case side2 => exact (Kd.R_reads' HO618.out).2.1); rintro e w12 ⟨v625, rfl, ho0, hb⟩; refine ⟨_, rfl, ?_⟩; have n0_ := zK (Kd.R_elder' (yR HO618.out) (Kd.R_base ho0) hb); have n1_ := zK (Kd.R_elder' (yR HO622.out) (Kd.R_base ho0) hb); have n2_ := zK (Kd.R_lower (Kd.R_new' (Kd.R_new' ho0 (Kd.R_lt (yR HO618.out))) (Kd.R_lt (yR HO622.out))) (zN ya)); have n3_ := zK (zL ya hb); clear HO618; clear HO622; clear HB; have HO618 := n0_; have HO622 := n1_; have HO626 := n2_; have HB := n3_; clear n0_ n1_ n2_ n3_; (try clear hb); (try clear hb2); (try clear hk); (try clear hi); (try clear ho0)))
  (try simp only [Act.put, z1, z2, z3])
  go_cut [56] (fun v56 wc => ∃ (kq : Nat) (x56_7 : Bool), v56 = .bool x56_7 ∧ Aside0 (laws_FnFoldedExpressions.j0 kq l1 t616 t619 t624 x56_7 = some r) ∧ Aside0 (kq ≤ k) ∧ Aside0 (Kd.R k47 47 wc w.heap.size (fun k_ => some k_ ≠ (v621 : Value).ownBlock) (.slice Ao10 t616.length co10) t616) ∧ Aside0 (Kd.R k47 47 wc w.heap.size (fun k_ => some k_ ≠ ((.slice Ao10 t616.length co10) : Value).ownBlock) v621 t619) ∧ Aside0 (Below w.heap.size w wc))
  case first =>
   have H := HC8.out
   clear HC8
   by_cases c13 : (t620 != t624) = true
   ·as_aux_lemma =>
    rw [if_pos c13] at H
    have c13b0 : (t620 != t624) = true := c13
    (try (have c13b1 : decide (t620 = t624) = false := by simpa using c13))
    (try (have c13b2 : (t620 == t624) = false := by simpa using c13))
    (try (have c13b3 : ¬ (t620 = t624) := by simpa using c13))
    clear c13
    (first | rw [c13b0] | (simp only [i64_w, i32_w]; rw [c13b0]) | skip)
    have H' := zK H
    clear H
    go_wp2
    go_meet
    case rel => exact ⟨_, (true), ye, H', ⟨by first | omega | exact Nat.le_refl _⟩, ⟨by (with_reducible repeat (first | apply Kd.R_alloc | apply Kd.R_drewN | apply Kd.R_drew)); exact Kd.R_mono HO618.out (fun _ hk => hk.1.2)⟩, ⟨by (with_reducible repeat (first | apply Kd.R_alloc | apply Kd.R_drewN | apply Kd.R_drew)); exact Kd.R_mono HO622.out (fun _ hk => hk.1.2)⟩, ⟨ya⟩⟩
   ·as_aux_lemma =>
    rw [if_neg c13] at H
    have c13b0 : (t620 != t624) = false := by simpa using c13
    (try (have c13b1 : decide (t620 = t624) = true := by simpa using c13))
    (try (have c13b2 : (t620 == t624) = true := by simpa using c13))
    clear c13
    (first | rw [c13b0] | (simp only [i64_w, i32_w]; rw [c13b0]) | skip)
    replace H := Option.bind_eq_some_iff.mp H
    obtain ⟨t627, A140, H⟩ := H
    replace H : (laws_FnFoldedExpressions.j0 k l1 t616 t619 t624 (!t627)) = some r := H
    have A14 := zK A140
    clear A140
    have H' := zK H
    clear H
    obtain ⟨Ao15, co15, eo15⟩ := Kd.R_slice HO622.out
    subst eo15
    obtain ⟨Ao16, co16, eo16⟩ := Kd.R_slice HO626.out
    subst eo16
    go_wp2_with (first | (go_at_call 12; (with_reducible refine (laws_pSameExpr.calls k _ _ t619 _ _ t623 t627 _ ?side1 ?side2 ?side3 ?side4 A14.out).mono ?_); (case side1 => repeat (first | exact (Kd.R_reads' HO622.out).2.2 | (with_reducible refine Kd.C_alloc ?_ _) | (with_reducible refine Kd.C_drewN ?_ _) | (with_reducible refine Kd.C_drew ?_))); (case side2 => exact (Kd.R_reads' HO622.out).2.1); (case side3 => repeat (first | exact (Kd.R_reads' HO626.out).2.2 | (with_reducible refine Kd.C_alloc ?_ _) | (with_reducible refine Kd.C_drewN ?_ _) | (with_reducible refine Kd.C_drew ?_))); (case side4 => exact (Kd.R_reads' HO626.out).2.1); rintro e w' ⟨rfl, ⟨nd, rfl⟩⟩))
    go_meet
    case rel => exact ⟨_, (!t627), ye, H', ⟨by first | omega | exact Nat.le_refl _⟩, ⟨by (with_reducible repeat (first | apply Kd.R_alloc | apply Kd.R_drewN | apply Kd.R_drew)); exact Kd.R_mono HO618.out (fun _ hk => hk.1.2)⟩, ⟨by (with_reducible repeat (first | apply Kd.R_alloc | apply Kd.R_drewN | apply Kd.R_drew)); exact Kd.R_mono HO622.out (fun _ hk => hk.1.2)⟩, ⟨ya⟩⟩
  case rest =>
   clear HC8
   try clear c1
   try clear p2
   try clear c3
   try clear c4
   try clear c6
   try clear c8
   try clear c13
   try clear c13b0
   try clear c13b1
   try clear c13b2
   obtain ⟨kq, x56_7, rfl, HA, HJ7, HO_5, HO_6, HB⟩ := hcut
   cases kq with
   | zero => exact absurd HA.out (by simp [laws_FnFoldedExpressions.j0])
   | succ kj7 =>
    have H := HA.out
    clear HA
    simp only [laws_FnFoldedExpressions.j0] at H
    by_cases c17 : x56_7 = true
    ·subst c17
     rw [if_pos rfl] at H
     exact absurd ((Option.some.inj H).trans hr) yp1
    ·replace c17 := Bool.eq_false_iff.mpr c17
     subst c17
     rw [if_neg (show ¬ (false = true) by decide)] at H
     replace H := Option.bind_eq_some_iff.mp H
     obtain ⟨t628, A180, H⟩ := H
     replace H : ((impl_CountOps.f kj7 t628).bind fun bt631 => ((spec_CountOps.f kj7 t628).bind fun bt633 => ((impl_InputsOf.f kj7 t628).bind fun bt635 => ((spec_InputsOf.f kj7 t628).bind fun bt639 => ((impl_DepthOf.f kj7 t628).bind fun bt643 => ((spec_DepthOf.f kj7 t628).bind fun bt645 => (if (bt631.2 != bt633.2) = true then (laws_FnFoldedExpressions.j1 kj7 t616 t619 t624 true) else (if bt631.1 = bt633.1 then (if (bt635.2 != bt639.2) = true then (laws_FnFoldedExpressions.j1 kj7 t616 t619 t624 true) else ((laws_pSame.f kj7 bt635.1 bt639.1).bind fun t647 => (if t647 = true then (if (bt643.2 != bt645.2) = true then (laws_FnFoldedExpressions.j1 kj7 t616 t619 t624 true) else (if bt643.1 = bt645.1 then (if bt631.2 = true then (laws_FnFoldedExpressions.j1 kj7 t616 t619 t624 (decide (bt643.1 > bt631.1))) else (laws_FnFoldedExpressions.j1 kj7 t616 t619 t624 false)) else (laws_FnFoldedExpressions.j1 kj7 t616 t619 t624 true))) else (laws_FnFoldedExpressions.j1 kj7 t616 t619 t624 true)))) else (laws_FnFoldedExpressions.j1 kj7 t616 t619 t624 true))))))))) = some r := H
     have A18 := zK A180
     clear A180
     replace H := Option.bind_eq_some_iff.mp H
     obtain ⟨⟨t631, t632⟩, A190, H⟩ := H
     replace H : ((spec_CountOps.f kj7 t628).bind fun bt633 => ((impl_InputsOf.f kj7 t628).bind fun bt635 => ((spec_InputsOf.f kj7 t628).bind fun bt639 => ((impl_DepthOf.f kj7 t628).bind fun bt643 => ((spec_DepthOf.f kj7 t628).bind fun bt645 => (if (t632 != bt633.2) = true then (laws_FnFoldedExpressions.j1 kj7 t616 t619 t624 true) else (if t631 = bt633.1 then (if (bt635.2 != bt639.2) = true then (laws_FnFoldedExpressions.j1 kj7 t616 t619 t624 true) else ((laws_pSame.f kj7 bt635.1 bt639.1).bind fun t647 => (if t647 = true then (if (bt643.2 != bt645.2) = true then (laws_FnFoldedExpressions.j1 kj7 t616 t619 t624 true) else (if bt643.1 = bt645.1 then (if t632 = true then (laws_FnFoldedExpressions.j1 kj7 t616 t619 t624 (decide (bt643.1 > t631))) else (laws_FnFoldedExpressions.j1 kj7 t616 t619 t624 false)) else (laws_FnFoldedExpressions.j1 kj7 t616 t619 t624 true))) else (laws_FnFoldedExpressions.j1 kj7 t616 t619 t624 true)))) else (laws_FnFoldedExpressions.j1 kj7 t616 t619 t624 true)))))))) = some r := H
     have A19 := zK A190
     clear A190
     replace H := Option.bind_eq_some_iff.mp H
     obtain ⟨⟨t633, t634⟩, A200, H⟩ := H
     replace H : ((impl_InputsOf.f kj7 t628).bind fun bt635 => ((spec_InputsOf.f kj7 t628).bind fun bt639 => ((impl_DepthOf.f kj7 t628).bind fun bt643 => ((spec_DepthOf.f kj7 t628).bind fun bt645 => (if (t632 != t634) = true then (laws_FnFoldedExpressions.j1 kj7 t616 t619 t624 true) else (if t631 = t633 then (if (bt635.2 != bt639.2) = true then (laws_FnFoldedExpressions.j1 kj7 t616 t619 t624 true) else ((laws_pSame.f kj7 bt635.1 bt639.1).bind fun t647 => (if t647 = true then (if (bt643.2 != bt645.2) = true then (laws_FnFoldedExpressions.j1 kj7 t616 t619 t624 true) else (if bt643.1 = bt645.1 then (if t632 = true then (laws_FnFoldedExpressions.j1 kj7 t616 t619 t624 (decide (bt643.1 > t631))) else (laws_FnFoldedExpressions.j1 kj7 t616 t619 t624 false)) else (laws_FnFoldedExpressions.j1 kj7 t616 t619 t624 true))) else (laws_FnFoldedExpressions.j1 kj7 t616 t619 t624 true)))) else (laws_FnFoldedExpressions.j1 kj7 t616 t619 t624 true))))))) = some r := H
     have A20 := zK A200
     clear A200
     replace H := Option.bind_eq_some_iff.mp H
     obtain ⟨⟨t635, t636⟩, A210, H⟩ := H
     replace H : ((spec_InputsOf.f kj7 t628).bind fun bt639 => ((impl_DepthOf.f kj7 t628).bind fun bt643 => ((spec_DepthOf.f kj7 t628).bind fun bt645 => (if (t632 != t634) = true then (laws_FnFoldedExpressions.j1 kj7 t616 t619 t624 true) else (if t631 = t633 then (if (t636 != bt639.2) = true then (laws_FnFoldedExpressions.j1 kj7 t616 t619 t624 true) else ((laws_pSame.f kj7 t635 bt639.1).bind fun t647 => (if t647 = true then (if (bt643.2 != bt645.2) = true then (laws_FnFoldedExpressions.j1 kj7 t616 t619 t624 true) else (if bt643.1 = bt645.1 then (if t632 = true then (laws_FnFoldedExpressions.j1 kj7 t616 t619 t624 (decide (bt643.1 > t631))) else (laws_FnFoldedExpressions.j1 kj7 t616 t619 t624 false)) else (laws_FnFoldedExpressions.j1 kj7 t616 t619 t624 true))) else (laws_FnFoldedExpressions.j1 kj7 t616 t619 t624 true)))) else (laws_FnFoldedExpressions.j1 kj7 t616 t619 t624 true)))))) = some r := H
     have A21 := zK A210
     clear A210
     replace H := Option.bind_eq_some_iff.mp H
     obtain ⟨⟨t639, t640⟩, A220, H⟩ := H
     replace H : ((impl_DepthOf.f kj7 t628).bind fun bt643 => ((spec_DepthOf.f kj7 t628).bind fun bt645 => (if (t632 != t634) = true then (laws_FnFoldedExpressions.j1 kj7 t616 t619 t624 true) else (if t631 = t633 then (if (t636 != t640) = true then (laws_FnFoldedExpressions.j1 kj7 t616 t619 t624 true) else ((laws_pSame.f kj7 t635 t639).bind fun t647 => (if t647 = true then (if (bt643.2 != bt645.2) = true then (laws_FnFoldedExpressions.j1 kj7 t616 t619 t624 true) else (if bt643.1 = bt645.1 then (if t632 = true then (laws_FnFoldedExpressions.j1 kj7 t616 t619 t624 (decide (bt643.1 > t631))) else (laws_FnFoldedExpressions.j1 kj7 t616 t619 t624 false)) else (laws_FnFoldedExpressions.j1 kj7 t616 t619 t624 true))) else (laws_FnFoldedExpressions.j1 kj7 t616 t619 t624 true)))) else (laws_FnFoldedExpressions.j1 kj7 t616 t619 t624 true))))) = some r := H
     have A22 := zK A220
     clear A220
     replace H := Option.bind_eq_some_iff.mp H
     obtain ⟨⟨t643, t644⟩, A230, H⟩ := H
     replace H : ((spec_DepthOf.f kj7 t628).bind fun bt645 => (if (t632 != t634) = true then (laws_FnFoldedExpressions.j1 kj7 t616 t619 t624 true) else (if t631 = t633 then (if (t636 != t640) = true then (laws_FnFoldedExpressions.j1 kj7 t616 t619 t624 true) else ((laws_pSame.f kj7 t635 t639).bind fun t647 => (if t647 = true then (if (t644 != bt645.2) = true then (laws_FnFoldedExpressions.j1 kj7 t616 t619 t624 true) else (if t643 = bt645.1 then (if t632 = true then (laws_FnFoldedExpressions.j1 kj7 t616 t619 t624 (decide (t643 > t631))) else (laws_FnFoldedExpressions.j1 kj7 t616 t619 t624 false)) else (laws_FnFoldedExpressions.j1 kj7 t616 t619 t624 true))) else (laws_FnFoldedExpressions.j1 kj7 t616 t619 t624 true)))) else (laws_FnFoldedExpressions.j1 kj7 t616 t619 t624 true)))) = some r := H
     have A23 := zK A230
     clear A230
     replace H := Option.bind_eq_some_iff.mp H
     obtain ⟨⟨t645, t646⟩, A240, H⟩ := H
     replace H : (if (t632 != t634) = true then (laws_FnFoldedExpressions.j1 kj7 t616 t619 t624 true) else (if t631 = t633 then (if (t636 != t640) = true then (laws_FnFoldedExpressions.j1 kj7 t616 t619 t624 true) else ((laws_pSame.f kj7 t635 t639).bind fun t647 => (if t647 = true then (if (t644 != t646) = true then (laws_FnFoldedExpressions.j1 kj7 t616 t619 t624 true) else (if t643 = t645 then (if t632 = true then (laws_FnFoldedExpressions.j1 kj7 t616 t619 t624 (decide (t643 > t631))) else (laws_FnFoldedExpressions.j1 kj7 t616 t619 t624 false)) else (laws_FnFoldedExpressions.j1 kj7 t616 t619 t624 true))) else (laws_FnFoldedExpressions.j1 kj7 t616 t619 t624 true)))) else (laws_FnFoldedExpressions.j1 kj7 t616 t619 t624 true))) = some r := H
     have A24 := zK A240
     clear A240
     have HC25 := zK H
     clear H
     go_upto_region 15 with (first | ((with_reducible refine gate_callee (f := 38) rfl ?_); refine goesL_ (some 58) rfl rfl Try.func38 yi rfl #[.slice A1 l1.length c1] rfl yb ?_; (with_reducible refine (spec_DrawCountOps.calls kj7 _ _ l1 t628 _ ?side1 ?side2 A18.out).mono ?_); (case side1 => repeat (first | exact (Kd.C_below HR1.out HB.out) | (with_reducible refine Kd.C_alloc ?_ _) | (with_reducible refine Kd.C_drewN ?_ _) | (with_reducible refine Kd.C_drew ?_))); (case side2 => exact HC1.out); rintro e w26 ⟨v629, rfl, ho0, hb⟩; refine ⟨_, rfl, ?_⟩; have n0_ := zK (Kd.R_elder' yj (Kd.R_base ho0) hb); have n1_ := zK (Kd.R_elder' yo (Kd.R_base ho0) hb); have n2_ := zK (Kd.R_lower (Kd.R_new' (Kd.R_new' ho0 (Kd.R_lt yj)) (Kd.R_lt yo)) (zN ya)); have n3_ := zK (zL ya hb); clear HO_5; clear HO_6; clear HB; have HO_5 := n0_; have HO_6 := n1_; have HO630 := n2_; have HB := n3_; clear n0_ n1_ n2_ n3_; (try clear hb); (try clear hb2); (try clear hk); (try clear hi); (try clear ho0); obtain ⟨Ao27, co27, eo27⟩ := Kd.R_slice HO630.out; subst eo27) | ((with_reducible refine gate_callee (f := 39) rfl ?_); refine goesL_ (some 61) rfl rfl Try.func39 yi rfl #[.slice Ao27 t628.length co27] rfl yb ?_; (with_reducible refine (impl_CountOps.calls kj7 _ _ t628 t631 t632 _ ?side1 ?side2 A19.out).mono ?_); (case side1 => exact xxg); (case side2 => exact (Kd.R_reads' HO630.out).2.1); rintro e w28 ⟨rfl, hb⟩; refine ⟨_, rfl, ?_⟩; have n0_ := zK (Kd.R_below yj hb); have n1_ := zK (Kd.R_below yo hb); have n2_ := zK (Kd.R_below ye2 hb); have n3_ := zK (zL ya hb); clear HO_5; clear HO_6; clear HO630; clear HB; have HO_5 := n0_; have HO_6 := n1_; have HO630 := n2_; have HB := n3_; clear n0_ n1_ n2_ n3_; (try clear hb); (try clear hb2); (try clear hk); (try clear hi)) | ((with_reducible refine gate_callee (f := 40) rfl ?_); refine goesL_ (some 66) rfl rfl Try.func40 yi rfl #[.slice Ao27 t628.length co27] rfl yb ?_; (with_reducible refine (spec_CountOps.calls kj7 _ _ t628 t633 t634 _ ?side1 ?side2 A20.out).mono ?_); (case side1 => exact xxg); (case side2 => exact (Kd.R_reads' HO630.out).2.1); rintro e w29 ⟨rfl, hb⟩; refine ⟨_, rfl, ?_⟩; have n0_ := zK (Kd.R_below yj hb); have n1_ := zK (Kd.R_below yo hb); have n2_ := zK (Kd.R_below ye2 hb); have n3_ := zK (zL ya hb); clear HO_5; clear HO_6; clear HO630; clear HB; have HO_5 := n0_; have HO_6 := n1_; have HO630 := n2_; have HB := n3_; clear n0_ n1_ n2_ n3_; (try clear hb); (try clear hb2); (try clear hk); (try clear hi)) | ((with_reducible refine gate_callee (f := 41) rfl ?_); refine goesL_ (some 71) rfl rfl Try.func41 yi rfl #[.slice Ao27 t628.length co27] rfl yb ?_; (with_reducible refine (impl_InputsOf.calls kj7 _ _ t628 t635 t636 _ ?side1 ?side2 A21.out).mono ?_); (case side1 => exact xxg); (case side2 => exact (Kd.R_reads' HO630.out).2.1); rintro e w30 ⟨v637, rfl, ho0, hb⟩; refine ⟨_, rfl, ?_⟩; have n0_ := zK (Kd.R_below yj hb); have n1_ := zK (Kd.R_below yo hb); have n2_ := zK (Kd.R_below ye2 hb); have n3_ := zK (Kd.R_lower ho0 (zN ya)); have n4_ := zK (zL ya hb); clear HO_5; clear HO_6; clear HO630; clear HB; have HO_5 := n0_; have HO_6 := n1_; have HO630 := n2_; have HO638 := n3_; have HB := n4_; clear n0_ n1_ n2_ n3_ n4_; (try clear hb); (try clear hb2); (try clear hk); (try clear hi); (try clear ho0)) | ((with_reducible refine gate_callee (f := 42) rfl ?_); refine goesL_ (some 76) rfl rfl Try.func42 yi rfl #[.slice Ao27 t628.length co27] rfl yb ?_; (with_reducible refine (spec_InputsOf.calls kj7 _ _ t628 t639 t640 _ ?side1 ?side2 A22.out).mono ?_); (case side1 => exact xxg); (case side2 => exact (Kd.R_reads' HO630.out).2.1); rintro e w31 ⟨v641, rfl, ho0, hb⟩; refine ⟨_, rfl, ?_⟩; have n0_ := zK (Kd.R_below yj hb); have n1_ := zK (Kd.R_below yo hb); have n2_ := zK (Kd.R_below ye2 hb); have n3_ := zK (Kd.R_elder' (yR HO638.out) (Kd.R_base ho0) hb); have n4_ := zK (Kd.R_lower (Kd.R_new' ho0 (Kd.R_lt (yR HO638.out))) (zN ya)); have n5_ := zK (zL ya hb); clear HO_5; clear HO_6; clear HO630; clear HO638; clear HB; have HO_5 := n0_; have HO_6 := n1_; have HO630 := n2_; have HO638 := n3_; have HO642 := n4_; have HB := n5_; clear n0_ n1_ n2_ n3_ n4_ n5_; (try clear hb); (try clear hb2); (try clear hk); (try clear hi); (try clear ho0)) | ((with_reducible refine gate_callee (f := 43) rfl ?_); refine goesL_ (some 81) rfl rfl Try.func43 yi rfl #[.slice Ao27 t628.length co27] rfl yb ?_; (with_reducible refine (impl_DepthOf.calls kj7 _ _ t628 t643 t644 _ ?side1 ?side2 A23.out).mono ?_); (case side1 => exact xxg); (case side2 => exact (Kd.R_reads' HO630.out).2.1); rintro e w32 ⟨rfl, hb⟩; refine ⟨_, rfl, ?_⟩; have n0_ := zK (Kd.R_below yj hb); have n1_ := zK (Kd.R_below yo hb); have n2_ := zK (Kd.R_below ye2 hb); have n3_ := zK (Kd.R_below (yR HO638.out) hb); have n4_ := zK (Kd.R_below (yR HO642.out) hb); have n5_ := zK (zL ya hb); clear HO_5; clear HO_6; clear HO630; clear HO638; clear HO642; clear HB; have HO_5 := n0_; have HO_6 := n1_; have HO630 := n2_; have HO638 := n3_; have HO642 := n4_; have HB := n5_; clear n0_ n1_ n2_ n3_ n4_ n5_; (try clear hb); (try clear hb2); (try clear hk); (try clear hi)) | ((with_reducible refine gate_callee (f := 44) rfl ?_); refine goesL_ (some 86) rfl rfl Try.func44 yi rfl #[.slice Ao27 t628.length co27] rfl yb ?_; (with_reducible refine (spec_DepthOf.calls kj7 _ _ t628 t645 t646 _ ?side1 ?side2 A24.out).mono ?_); (case side1 => exact xxg); (case side2 => exact (Kd.R_reads' HO630.out).2.1); rintro e w33 ⟨rfl, hb⟩; refine ⟨_, rfl, ?_⟩; have n0_ := zK (Kd.R_below yj hb); have n1_ := zK (Kd.R_below yo hb); have n2_ := zK (Kd.R_below ye2 hb); have n3_ := zK (Kd.R_below (yR HO638.out) hb); have n4_ := zK (Kd.R_below (yR HO642.out) hb); have n5_ := zK (zL ya hb); clear HO_5; clear HO_6; clear HO630; clear HO638; clear HO642; clear HB; have HO_5 := n0_; have HO_6 := n1_; have HO630 := n2_; have HO638 := n3_; have HO642 := n4_; have HB := n5_; clear n0_ n1_ n2_ n3_ n4_ n5_; (try clear hb); (try clear hb2); (try clear hk); (try clear hi)))
     (try simp only [Act.put, z1, z2, z3])
     go_cut [125] (fun v125 wc => ∃ (kq : Nat) (x125_24 : Bool), v125 = .bool x125_24 ∧ Aside0 (laws_FnFoldedExpressions.j1 kq t616 t619 t624 x125_24 = some r) ∧ Aside0 (kq ≤ kj7) ∧ Aside0 (Kd.R k47 47 wc w.heap.size (fun k_ => some k_ ≠ (v621 : Value).ownBlock) (.slice Ao10 t616.length co10) t616) ∧ Aside0 (Kd.R k47 47 wc w.heap.size (fun k_ => some k_ ≠ ((.slice Ao10 t616.length co10) : Value).ownBlock) v621 t619) ∧ Aside0 (Below w.heap.size w wc))
     case first =>
      have H := HC25.out
      clear HC25
      by_cases c34 : (t632 != t634) = true
      ·as_aux_lemma =>
       rw [if_pos c34] at H
       have c34b0 : (t632 != t634) = true := c34
       (try (have c34b1 : decide (t632 = t634) = false := by simpa using c34))
       (try (have c34b2 : (t632 == t634) = false := by simpa using c34))
       (try (have c34b3 : ¬ (t632 = t634) := by simpa using c34))
       clear c34
       (first | rw [c34b0] | (simp only [i64_w, i32_w]; rw [c34b0]) | skip)
       have H' := zK H
       clear H
       go_wp2
       go_meet
       case rel => exact ⟨_, (true), ye, H', ⟨by have := HJ7.out; first | omega | exact Nat.le_refl _⟩, ⟨yk1⟩, ⟨yj1⟩, ⟨ya⟩⟩
      ·as_aux_lemma =>
       rw [if_neg c34] at H
       have c34b0 : (t632 != t634) = false := by simpa using c34
       (try (have c34b1 : decide (t632 = t634) = true := by simpa using c34))
       (try (have c34b2 : (t632 == t634) = true := by simpa using c34))
       clear c34
       (first | rw [c34b0] | (simp only [i64_w, i32_w]; rw [c34b0]) | skip)
       by_cases c35 : t631 = t633
       ·as_aux_lemma =>
        rw [if_pos c35] at H
        have c35b0 : (t631 == t633) = true := beq_iff_eq.mpr c35
        have c35b1 : (t631 != t633) = false := bne_eq_false_iff_eq.mpr c35
        clear c35
        by_cases c36 : (t636 != t640) = true
        ·as_aux_lemma =>
         rw [if_pos c36] at H
         have c36b0 : (t636 != t640) = true := c36
         (try (have c36b1 : decide (t636 = t640) = false := by simpa using c36))
         (try (have c36b2 : (t636 == t640) = false := by simpa using c36))
         (try (have c36b3 : ¬ (t636 = t640) := by simpa using c36))
         clear c36
         have H' := zK H
         clear H
         go_wp2
         go_meet
         case rel => exact ⟨_, (true), ye, H', ⟨by have := HJ7.out; first | omega | exact Nat.le_refl _⟩, ⟨yk1⟩, ⟨yj1⟩, ⟨ya⟩⟩
        ·as_aux_lemma =>
         rw [if_neg c36] at H
         have c36b0 : (t636 != t640) = false := by simpa using c36
         (try (have c36b1 : decide (t636 = t640) = true := by simpa using c36))
         (try (have c36b2 : (t636 == t640) = true := by simpa using c36))
         clear c36
         replace H := Option.bind_eq_some_iff.mp H
         obtain ⟨t647, A370, H⟩ := H
         replace H : (if t647 = true then (if (t644 != t646) = true then (laws_FnFoldedExpressions.j1 kj7 t616 t619 t624 true) else (if t643 = t645 then (if t632 = true then (laws_FnFoldedExpressions.j1 kj7 t616 t619 t624 (decide (t643 > t631))) else (laws_FnFoldedExpressions.j1 kj7 t616 t619 t624 false)) else (laws_FnFoldedExpressions.j1 kj7 t616 t619 t624 true))) else (laws_FnFoldedExpressions.j1 kj7 t616 t619 t624 true)) = some r := H
         have A37 := zK A370
         clear A370
         by_cases c38 : t647 = true
         ·subst c38
          rw [if_pos rfl] at H
          by_cases c39 : (t644 != t646) = true
          ·as_aux_lemma =>
           rw [if_pos c39] at H
           have c39b0 : (t644 != t646) = true := c39
           (try (have c39b1 : decide (t644 = t646) = false := by simpa using c39))
           (try (have c39b2 : (t644 == t646) = false := by simpa using c39))
           (try (have c39b3 : ¬ (t644 = t646) := by simpa using c39))
           clear c39
           have H' := zK H
           clear H
           obtain ⟨Ao40, co40, eo40⟩ := Kd.R_slice HO638.out
           subst eo40
           obtain ⟨Ao41, co41, eo41⟩ := Kd.R_slice HO642.out
           subst eo41
           go_wp2_with (first | (go_at_call 18; (with_reducible refine (laws_pSame.calls kj7 _ _ t635 _ _ t639 true _ ?side1 ?side2 ?side3 ?side4 A37.out).mono ?_); (case side1 => exact xxh); (case side2 => exact (Kd.R_reads' HO638.out).2.1); (case side3 => exact xxi); (case side4 => exact (Kd.R_reads' HO642.out).2.1); rintro e w' ⟨rfl, ⟨nd, rfl⟩⟩))
           go_meet
           case rel => exact ⟨_, (true), ye, H', ⟨by have := HJ7.out; first | omega | exact Nat.le_refl _⟩, ⟨yk1⟩, ⟨yj1⟩, ⟨ya⟩⟩
          ·as_aux_lemma =>
           rw [if_neg c39] at H
           have c39b0 : (t644 != t646) = false := by simpa using c39
           (try (have c39b1 : decide (t644 = t646) = true := by simpa using c39))
           (try (have c39b2 : (t644 == t646) = true := by simpa using c39))
           clear c39
           by_cases c42 : t643 = t645
           ·as_aux_lemma =>
            rw [if_pos c42] at H
            have c42b0 : (t643 == t645) = true := beq_iff_eq.mpr c42
            have c42b1 : (t643 != t645) = false := bne_eq_false_iff_eq.mpr c42
            clear c42
            by_cases c43 : t632 = true
            ·subst c43
             rw [if_pos rfl] at H
             have H' := zK H
             clear H
             obtain ⟨Ao44, co44, eo44⟩ := Kd.R_slice HO638.out
             subst eo44
             obtain ⟨Ao45, co45, eo45⟩ := Kd.R_slice HO642.out
             subst eo45
             go_wp2_with (first | (go_at_call 18; (with_reducible refine (laws_pSame.calls kj7 _ _ t635 _ _ t639 true _ ?side1 ?side2 ?side3 ?side4 A37.out).mono ?_); (case side1 => exact xxh); (case side2 => exact (Kd.R_reads' HO638.out).2.1); (case side3 => exact xxi); (case side4 => exact (Kd.R_reads' HO642.out).2.1); rintro e w' ⟨rfl, ⟨nd, rfl⟩⟩))
             go_meet
             case rel => exact ⟨_, (decide (t643 > t631)), ye, H', ⟨by have := HJ7.out; first | omega | exact Nat.le_refl _⟩, ⟨yk1⟩, ⟨yj1⟩, ⟨ya⟩⟩
            ·replace c43 := Bool.eq_false_iff.mpr c43
             subst c43
             rw [if_neg (show ¬ (false = true) by decide)] at H
             have H' := zK H
             clear H
             obtain ⟨Ao46, co46, eo46⟩ := Kd.R_slice HO638.out
             subst eo46
             obtain ⟨Ao47, co47, eo47⟩ := Kd.R_slice HO642.out
             subst eo47
             go_wp2_with (first | (go_at_call 18; (with_reducible refine (laws_pSame.calls kj7 _ _ t635 _ _ t639 true _ ?side1 ?side2 ?side3 ?side4 A37.out).mono ?_); (case side1 => exact xxh); (case side2 => exact (Kd.R_reads' HO638.out).2.1); (case side3 => exact xxi); (case side4 => exact (Kd.R_reads' HO642.out).2.1); rintro e w' ⟨rfl, ⟨nd, rfl⟩⟩))
             go_meet
             case rel => exact ⟨_, (false), ye, H', ⟨by have := HJ7.out; first | omega | exact Nat.le_refl _⟩, ⟨yk1⟩, ⟨yj1⟩, ⟨ya⟩⟩
           ·as_aux_lemma =>
            rw [if_neg c42] at H
            have c42b0 : (t643 == t645) = false := beq_eq_false_iff_ne.mpr c42
            have c42b1 : (t643 != t645) = true := bne_iff_ne.mpr c42
            have H' := zK H
            clear H
            obtain ⟨Ao48, co48, eo48⟩ := Kd.R_slice HO638.out
            subst eo48
            obtain ⟨Ao49, co49, eo49⟩ := Kd.R_slice HO642.out
            subst eo49
            go_wp2_with (first | (go_at_call 18; (with_reducible refine (laws_pSame.calls kj7 _ _ t635 _ _ t639 true _ ?side1 ?side2 ?side3 ?side4 A37.out).mono ?_); (case side1 => exact xxh); (case side2 => exact (Kd.R_reads' HO638.out).2.1); (case side3 => exact xxi); (case side4 => exact (Kd.R_reads' HO642.out).2.1); rintro e w' ⟨rfl, ⟨nd, rfl⟩⟩))
            go_meet
            case rel => exact ⟨_, (true), ye, H', ⟨by have := HJ7.out; first | omega | exact Nat.le_refl _⟩, ⟨yk1⟩, ⟨yj1⟩, ⟨ya⟩⟩
         ·replace c38 := Bool.eq_false_iff.mpr c38
          subst c38
          rw [if_neg (show ¬ (false = true) by decide)] at H
          have H' := zK H
          clear H
          obtain ⟨Ao50, co50, eo50⟩ := Kd.R_slice HO638.out
          subst eo50
          obtain ⟨Ao51, co51, eo51⟩ := Kd.R_slice HO642.out
          subst eo51
          go_wp2_with (first | (go_at_call 18; (with_reducible refine (laws_pSame.calls kj7 _ _ t635 _ _ t639 false _ ?side1 ?side2 ?side3 ?side4 A37.out).mono ?_); (case side1 => exact xxh); (case side2 => exact (Kd.R_reads' HO638.out).2.1); (case side3 => exact xxi); (case side4 => exact (Kd.R_reads' HO642.out).2.1); rintro e w' ⟨rfl, ⟨nd, rfl⟩⟩))
          go_meet
          case rel => exact ⟨_, (true), ye, H', ⟨by have := HJ7.out; first | omega | exact Nat.le_refl _⟩, ⟨yk1⟩, ⟨yj1⟩, ⟨ya⟩⟩
       ·as_aux_lemma =>
        rw [if_neg c35] at H
        have c35b0 : (t631 == t633) = false := beq_eq_false_iff_ne.mpr c35
        have c35b1 : (t631 != t633) = true := bne_iff_ne.mpr c35
        have H' := zK H
        clear H
        go_wp2
        go_meet
        case rel => exact ⟨_, (true), ye, H', ⟨by have := HJ7.out; first | omega | exact Nat.le_refl _⟩, ⟨yk1⟩, ⟨yj1⟩, ⟨ya⟩⟩
     case rest =>
      clear HC25
      try clear c1
      try clear p2
      try clear c3
      try clear c4
      try clear c6
      try clear c8
      try clear c13
      try clear c13b0
      try clear c13b1
      try clear c13b2
      try clear c17
      try clear c34
      try clear c34b0
      try clear c34b1
      try clear c34b2
      try clear c35
      try clear c35b0
      try clear c35b1
      try clear c36
      try clear c36b0
      try clear c36b1
      try clear c36b2
      try clear c37
      try clear c38
      try clear c39
      try clear c39b0
      try clear c39b1
      try clear c39b2
      try clear c40
      try clear c41
      try clear c42
      try clear c42b0
      try clear c42b1
      try clear c43
      try clear c44
      try clear p2
      obtain ⟨kq, x125_24, rfl, HA, HJ24, HO_5, HO_6, HB⟩ := hcut
      cases kq with
      | zero => exact absurd HA.out (by simp [laws_FnFoldedExpressions.j1])
      | succ kj24 =>
       have H := HA.out
       clear HA
       simp only [laws_FnFoldedExpressions.j1] at H
       by_cases c52 : x125_24 = true
       ·subst c52
        rw [if_pos rfl] at H
        exact absurd ((Option.some.inj H).trans hr) yp1
       ·replace c52 := Bool.eq_false_iff.mpr c52
        subst c52
        rw [if_neg (show ¬ (false = true) by decide)] at H
        by_cases c53 : t624 = true
        ·subst c53
         rw [if_pos rfl] at H
         replace H := Option.bind_eq_some_iff.mp H
         obtain ⟨⟨t648, t649⟩, A540, H⟩ := H
         replace H : ((impl_CountOps.f kj24 t616).bind fun bt652 => ((impl_CountOps.f kj24 t619).bind fun bt654 => (if t649 = true then (if bt652.2 = true then (if bt654.2 = true then (if bt654.1 > bt652.1 then (laws_FnFoldedExpressions.j2 kj24 t619 true) else ((laws_pSameExpr.f kj24 t648 t619).bind fun t656 => (if t656 = true then ((laws_pTable.f kj24 t619).bind fun t657 => ((laws_pTable.f kj24 t616).bind fun t660 => ((laws_pSame.f kj24 t657 t660).bind fun t663 => (laws_FnFoldedExpressions.j2 kj24 t619 (!t663))))) else (laws_FnFoldedExpressions.j2 kj24 t619 true)))) else (laws_FnFoldedExpressions.j2 kj24 t619 true)) else (laws_FnFoldedExpressions.j2 kj24 t619 true)) else (laws_FnFoldedExpressions.j2 kj24 t619 true)))) = some r := H
         have A54 := zK A540
         clear A540
         replace H := Option.bind_eq_some_iff.mp H
         obtain ⟨⟨t652, t653⟩, A550, H⟩ := H
         replace H : ((impl_CountOps.f kj24 t619).bind fun bt654 => (if t649 = true then (if t653 = true then (if bt654.2 = true then (if bt654.1 > t652 then (laws_FnFoldedExpressions.j2 kj24 t619 true) else ((laws_pSameExpr.f kj24 t648 t619).bind fun t656 => (if t656 = true then ((laws_pTable.f kj24 t619).bind fun t657 => ((laws_pTable.f kj24 t616).bind fun t660 => ((laws_pSame.f kj24 t657 t660).bind fun t663 => (laws_FnFoldedExpressions.j2 kj24 t619 (!t663))))) else (laws_FnFoldedExpressions.j2 kj24 t619 true)))) else (laws_FnFoldedExpressions.j2 kj24 t619 true)) else (laws_FnFoldedExpressions.j2 kj24 t619 true)) else (laws_FnFoldedExpressions.j2 kj24 t619 true))) = some r := H
         have A55 := zK A550
         clear A550
         replace H := Option.bind_eq_some_iff.mp H
         obtain ⟨⟨t654, t655⟩, A560, H⟩ := H
         replace H : (if t649 = true then (if t653 = true then (if t655 = true then (if t654 > t652 then (laws_FnFoldedExpressions.j2 kj24 t619 true) else ((laws_pSameExpr.f kj24 t648 t619).bind fun t656 => (if t656 = true then ((laws_pTable.f kj24 t619).bind fun t657 => ((laws_pTable.f kj24 t616).bind fun t660 => ((laws_pSame.f kj24 t657 t660).bind fun t663 => (laws_FnFoldedExpressions.j2 kj24 t619 (!t663))))) else (laws_FnFoldedExpressions.j2 kj24 t619 true)))) else (laws_FnFoldedExpressions.j2 kj24 t619 true)) else (laws_FnFoldedExpressions.j2 kj24 t619 true)) else (laws_FnFoldedExpressions.j2 kj24 t619 true)) = some r := H
         have A56 := zK A560
         clear A560
         have HC57 := zK H
         clear H
         obtain ⟨Ao58, co58, eo58⟩ := Kd.R_slice HO_6.out
         subst eo58
         go_upto_region 22 with (first | ((with_reducible refine gate_callee (f := 36) rfl ?_); refine goesL_ (some 130) rfl rfl Try.func36 yi rfl #[.slice Ao58 t619.length co58] rfl yb ?_; (with_reducible refine (impl_FoldExpr.calls kj24 _ _ t619 t648 t649 _ ?side1 ?side2 A54.out).mono ?_); (case side1 => exact xxj); (case side2 => exact (Kd.R_reads' HO_6.out).2.1); rintro e w59 ⟨v650, rfl, ho0, hb⟩; refine ⟨_, rfl, ?_⟩; have n0_ := zK (Kd.R_elder' yj (Kd.R_base ho0) hb); have n1_ := zK (Kd.R_elder' yo (Kd.R_base ho0) hb); have n2_ := zK (Kd.R_lower (Kd.R_new' (Kd.R_new' ho0 (Kd.R_lt yj)) (Kd.R_lt yo)) (zN ya)); have n3_ := zK (zL ya hb); clear HO_5; clear HO_6; clear HB; have HO_5 := n0_; have HO_6 := n1_; have HO651 := n2_; have HB := n3_; clear n0_ n1_ n2_ n3_; (try clear hb); (try clear hb2); (try clear hk); (try clear hi); (try clear ho0)) | ((with_reducible refine gate_callee (f := 39) rfl ?_); refine goesL_ (some 135) rfl rfl Try.func39 yi rfl #[.slice Ao10 t616.length co10] rfl yb ?_; (with_reducible refine (impl_CountOps.calls kj24 _ _ t616 t652 t653 _ ?side1 ?side2 A55.out).mono ?_); (case side1 => repeat (first | exact (Kd.R_reads' HO_5.out).2.2 | (with_reducible refine Kd.C_alloc ?_ _) | (with_reducible refine Kd.C_drewN ?_ _) | (with_reducible refine Kd.C_drew ?_))); (case side2 => exact (Kd.R_reads' HO_5.out).2.1); rintro e w60 ⟨rfl, hb⟩; refine ⟨_, rfl, ?_⟩; have n0_ := zK (Kd.R_below yj hb); have n1_ := zK (Kd.R_below yo hb); have n2_ := zK (Kd.R_below (yR HO651.out) hb); have n3_ := zK (zL ya hb); clear HO_5; clear HO_6; clear HO651; clear HB; have HO_5 := n0_; have HO_6 := n1_; have HO651 := n2_; have HB := n3_; clear n0_ n1_ n2_ n3_; (try clear hb); (try clear hb2); (try clear hk); (try clear hi)) | ((with_reducible refine gate_callee (f := 39) rfl ?_); refine goesL_ (some 140) rfl rfl Try.func39 yi rfl #[.slice Ao58 t619.length co58] rfl yb ?_; (with_reducible refine (impl_CountOps.calls kj24 _ _ t619 t654 t655 _ ?side1 ?side2 A56.out).mono ?_); (case side1 => exact xxj); (case side2 => exact (Kd.R_reads' HO_6.out).2.1); rintro e w61 ⟨rfl, hb⟩; refine ⟨_, rfl, ?_⟩; have n0_ := zK (Kd.R_below yj hb); have n1_ := zK (Kd.R_below yo hb); have n2_ := zK (Kd.R_below (yR HO651.out) hb); have n3_ := zK (zL ya hb); clear HO_5; clear HO_6; clear HO651; clear HB; have HO_5 := n0_; have HO_6 := n1_; have HO651 := n2_; have HB := n3_; clear n0_ n1_ n2_ n3_; (try clear hb); (try clear hb2); (try clear hk); (try clear hi)))
         (try simp only [Act.put, z1, z2, z3])
         go_cut [171] (fun v171 wc => ∃ (kq : Nat) (x171_56 : Bool), v171 = .bool x171_56 ∧ Aside0 (laws_FnFoldedExpressions.j2 kq t619 x171_56 = some r) ∧ Aside0 (kq ≤ kj24) ∧ Aside0 (Kd.R k47 47 wc w.heap.size (fun _ => True) (.slice Ao58 t619.length co58) t619) ∧ Aside0 (Below w.heap.size w wc))
         case first =>
          have H := HC57.out
          clear HC57
          by_cases c62 : t649 = true
          ·subst c62
           rw [if_pos rfl] at H
           by_cases c63 : t653 = true
           ·subst c63
            rw [if_pos rfl] at H
            by_cases c64 : t655 = true
            ·subst c64
             rw [if_pos rfl] at H
             by_cases c65 : t654 > t652
             ·as_aux_lemma =>
              rw [if_pos c65] at H
              have c65b0 : decide (t652 < t654) = true := decide_eq_true c65
              clear c65
              (first | rw [c65b0] | (simp only [i64_w, i32_w]; rw [c65b0]) | skip)
              have H' := zK H
              clear H
              go_wp2
              go_meet
              case rel => exact ⟨_, (true), ye, H', ⟨by have := HJ7.out; have := HJ24.out; first | omega | exact Nat.le_refl _⟩, ⟨yw⟩, ⟨ya⟩⟩
             ·as_aux_lemma =>
              rw [if_neg c65] at H
              have c65b0 : decide (t652 < t654) = false := decide_eq_false c65
              clear c65
              (first | rw [c65b0] | (simp only [i64_w, i32_w]; rw [c65b0]) | skip)
              replace H := Option.bind_eq_some_iff.mp H
              obtain ⟨t656, A660, H⟩ := H
              replace H : (if t656 = true then ((laws_pTable.f kj24 t619).bind fun t657 => ((laws_pTable.f kj24 t616).bind fun t660 => ((laws_pSame.f kj24 t657 t660).bind fun t663 => (laws_FnFoldedExpressions.j2 kj24 t619 (!t663))))) else (laws_FnFoldedExpressions.j2 kj24 t619 true)) = some r := H
              have A66 := zK A660
              clear A660
              by_cases c67 : t656 = true
              ·subst c67
               rw [if_pos rfl] at H
               replace H := Option.bind_eq_some_iff.mp H
               obtain ⟨t657, A680, H⟩ := H
               replace H : ((laws_pTable.f kj24 t616).bind fun t660 => ((laws_pSame.f kj24 t657 t660).bind fun t663 => (laws_FnFoldedExpressions.j2 kj24 t619 (!t663)))) = some r := H
               have A68 := zK A680
               clear A680
               replace H := Option.bind_eq_some_iff.mp H
               obtain ⟨t660, A690, H⟩ := H
               replace H : ((laws_pSame.f kj24 t657 t660).bind fun t663 => (laws_FnFoldedExpressions.j2 kj24 t619 (!t663))) = some r := H
               have A69 := zK A690
               clear A690
               replace H := Option.bind_eq_some_iff.mp H
               obtain ⟨t663, A700, H⟩ := H
               replace H : (laws_FnFoldedExpressions.j2 kj24 t619 (!t663)) = some r := H
               have A70 := zK A700
               clear A700
               have H' := zK H
               clear H
               obtain ⟨Ao71, co71, eo71⟩ := Kd.R_slice HO651.out
               subst eo71
               go_wp2_with (first | (go_at_call 12; (with_reducible refine (laws_pSameExpr.calls kj24 _ _ t648 _ _ t619 true _ ?side1 ?side2 ?side3 ?side4 A66.out).mono ?_); (case side1 => repeat (first | exact (Kd.R_reads' HO651.out).2.2 | (with_reducible refine Kd.C_alloc ?_ _) | (with_reducible refine Kd.C_drewN ?_ _) | (with_reducible refine Kd.C_drew ?_))); (case side2 => exact (Kd.R_reads' HO651.out).2.1); (case side3 => exact xxj); (case side4 => exact (Kd.R_reads' HO_6.out).2.1); rintro e w' ⟨rfl, ⟨nd, rfl⟩⟩) | (go_at_call 30; (with_reducible refine (laws_pTable.calls kj24 _ _ t619 t657 _ ?side1 ?side2 A68.out).mono ?_); (case side1 => exact xxj); (case side2 => exact (Kd.R_reads' HO_6.out).2.1); rintro e w72 ⟨v658, rfl, ho0, hb⟩; have n0_ := zK (Kd.R_below yj hb); have n1_ := zK (Kd.R_below yo hb); have n2_ := zK (Kd.R_below (yR HO651.out) hb); have n3_ := zK (Kd.R_lower ho0 (zN ya)); have n4_ := zK (zL ya hb); clear HO_5; clear HO_6; clear HO651; clear HB; have HO_5 := n0_; have HO_6 := n1_; have HO651 := n2_; have HO659 := n3_; have HB := n4_; clear n0_ n1_ n2_ n3_ n4_; (try clear hb); (try clear hb2); (try clear hk); (try clear hi); (try clear ho0)) | (go_at_call 30; (with_reducible refine (laws_pTable.calls kj24 _ _ t616 t660 _ ?side1 ?side2 A69.out).mono ?_); (case side1 => repeat (first | exact (Kd.R_reads' HO_5.out).2.2 | (with_reducible refine Kd.C_alloc ?_ _) | (with_reducible refine Kd.C_drewN ?_ _) | (with_reducible refine Kd.C_drew ?_))); (case side2 => exact (Kd.R_reads' HO_5.out).2.1); rintro e w73 ⟨v661, rfl, ho0, hb⟩; have n0_ := zK (Kd.R_below yj hb); have n1_ := zK (Kd.R_below yo hb); have n2_ := zK (Kd.R_below (yR HO651.out) hb); have n3_ := zK (Kd.R_elder' (yR HO659.out) (Kd.R_base ho0) hb); have n4_ := zK (Kd.R_lower (Kd.R_new' ho0 (Kd.R_lt (yR HO659.out))) (zN ya)); have n5_ := zK (zL ya hb); clear HO_5; clear HO_6; clear HO651; clear HO659; clear HB; have HO_5 := n0_; have HO_6 := n1_; have HO651 := n2_; have HO659 := n3_; have HO662 := n4_; have HB := n5_; clear n0_ n1_ n2_ n3_ n4_ n5_; (try clear hb); (try clear hb2); (try clear hk); (try clear hi); (try clear ho0); obtain ⟨Ao74, co74, eo74⟩ := Kd.R_slice HO659.out; subst eo74; obtain ⟨Ao75, co75, eo75⟩ := Kd.R_slice HO662.out; subst eo75) | (go_at_call 18; (with_reducible refine (laws_pSame.calls kj24 _ _ t657 _ _ t660 t663 _ ?side1 ?side2 ?side3 ?side4 A70.out).mono ?_); (case side1 => repeat (first | exact (Kd.R_reads' HO659.out).2.2 | (with_reducible refine Kd.C_alloc ?_ _) | (with_reducible refine Kd.C_drewN ?_ _) | (with_reducible refine Kd.C_drew ?_))); (case side2 => exact (Kd.R_reads' HO659.out).2.1); (case side3 => repeat (first | exact (Kd.R_reads' HO662.out).2.2 | (with_reducible refine Kd.C_alloc ?_ _) | (with_reducible refine Kd.C_drewN ?_ _) | (with_reducible refine Kd.C_drew ?_))); (case side4 => exact (Kd.R_reads' HO662.out).2.1); rintro e w' ⟨rfl, ⟨nd, rfl⟩⟩))
               go_meet
               case rel => exact ⟨_, (!t663), ye, H', ⟨by have := HJ7.out; have := HJ24.out; first | omega | exact Nat.le_refl _⟩, ⟨yw⟩, ⟨ya⟩⟩
              ·replace c67 := Bool.eq_false_iff.mpr c67
               subst c67
               rw [if_neg (show ¬ (false = true) by decide)] at H
               have H' := zK H
               clear H
               obtain ⟨Ao76, co76, eo76⟩ := Kd.R_slice HO651.out
               subst eo76
               go_wp2_with (first | (go_at_call 12; (with_reducible refine (laws_pSameExpr.calls kj24 _ _ t648 _ _ t619 false _ ?side1 ?side2 ?side3 ?side4 A66.out).mono ?_); (case side1 => repeat (first | exact (Kd.R_reads' HO651.out).2.2 | (with_reducible refine Kd.C_alloc ?_ _) | (with_reducible refine Kd.C_drewN ?_ _) | (with_reducible refine Kd.C_drew ?_))); (case side2 => exact (Kd.R_reads' HO651.out).2.1); (case side3 => exact xxj); (case side4 => exact (Kd.R_reads' HO_6.out).2.1); rintro e w' ⟨rfl, ⟨nd, rfl⟩⟩))
               go_meet
               case rel => exact ⟨_, (true), ye, H', ⟨by have := HJ7.out; have := HJ24.out; first | omega | exact Nat.le_refl _⟩, ⟨yw⟩, ⟨ya⟩⟩
            ·replace c64 := Bool.eq_false_iff.mpr c64
             subst c64
             rw [if_neg (show ¬ (false = true) by decide)] at H
             have H' := zK H
             clear H
             go_wp2
             go_meet
             case rel => exact ⟨_, (true), ye, H', ⟨by have := HJ7.out; have := HJ24.out; first | omega | exact Nat.le_refl _⟩, ⟨yw⟩, ⟨ya⟩⟩
           ·replace c63 := Bool.eq_false_iff.mpr c63
            subst c63
            rw [if_neg (show ¬ (false = true) by decide)] at H
            have H' := zK H
            clear H
            go_wp2
            go_meet
            case rel => exact ⟨_, (true), ye, H', ⟨by have := HJ7.out; have := HJ24.out; first | omega | exact Nat.le_refl _⟩, ⟨yw⟩, ⟨ya⟩⟩
          ·replace c62 := Bool.eq_false_iff.mpr c62
           subst c62
           rw [if_neg (show ¬ (false = true) by decide)] at H
           have H' := zK H
           clear H
           go_wp2
           go_meet
           case rel => exact ⟨_, (true), ye, H', ⟨by have := HJ7.out; have := HJ24.out; first | omega | exact Nat.le_refl _⟩, ⟨yw⟩, ⟨ya⟩⟩
         case rest =>
          clear HC57
          try clear c1
          try clear p2
          try clear c3
          try clear c4
          try clear c5
          try clear c6
          try clear c8
          try clear c13
          try clear c13b0
          try clear c13b1
          try clear c13b2
          try clear c17
          try clear c34
          try clear c34b0
          try clear c34b1
          try clear c34b2
          try clear c35
          try clear c35b0
          try clear c35b1
          try clear c36
          try clear c36b0
          try clear c36b1
          try clear c36b2
          try clear c37
          try clear c38
          try clear c39
          try clear c39b0
          try clear c39b1
          try clear c39b2
          try clear c40
          try clear c41
          try clear c42
          try clear c42b0
          try clear c42b1
          try clear c43
          try clear c44
          try clear c52
          try clear c53
          try clear c62
          try clear c63
          try clear c64
          try clear c65
          try clear c65b0
          try clear c67
          try clear p2
          obtain ⟨kq, x171_56, rfl, HA, HJ56, HO_6, HB⟩ := hcut
          cases kq with
          | zero => exact absurd HA.out (by simp [laws_FnFoldedExpressions.j2])
          | succ kj56 =>
           have H := HA.out
           clear HA
           simp only [laws_FnFoldedExpressions.j2] at H
           by_cases c77 : x171_56 = true
           ·subst c77
            rw [if_pos rfl] at H
            exact absurd ((Option.some.inj H).trans hr) yp1
           ·replace c77 := Bool.eq_false_iff.mpr c77
            subst c77
            rw [if_neg (show ¬ (false = true) by decide)] at H
            replace H := Option.bind_eq_some_iff.mp H
            obtain ⟨⟨t664, t665⟩, A780, H⟩ := H
            replace H : (if t665 = true then (if (t664.length : Int) = 0 then (laws_FnFoldedExpressions.j3 kj56 t619 ((t619.length : Int) != 1)) else (laws_FnFoldedExpressions.j3 kj56 t619 false)) else (laws_FnFoldedExpressions.j3 kj56 t619 true)) = some r := H
            have A78 := zK A780
            clear A780
            have HC79 := zK H
            clear H
            go_upto_region 25 with (first | ((with_reducible refine gate_callee (f := 41) rfl ?_); refine goesL_ (some 174) rfl rfl Try.func41 yi rfl #[.slice Ao58 t619.length co58] rfl yb ?_; (with_reducible refine (impl_InputsOf.calls kj56 _ _ t619 t664 t665 _ ?side1 ?side2 A78.out).mono ?_); (case side1 => exact xxj); (case side2 => exact (Kd.R_reads' HO_6.out).2.1); rintro e w80 ⟨v666, rfl, ho0, hb⟩; refine ⟨_, rfl, ?_⟩; have n0_ := zK (Kd.R_below yo hb); have n1_ := zK (Kd.R_lower ho0 (zN ya)); have n2_ := zK (zL ya hb); clear HO_6; clear HB; have HO_6 := n0_; have HO667 := n1_; have HB := n2_; clear n0_ n1_ n2_; (try clear hb); (try clear hb2); (try clear hk); (try clear hi); (try clear ho0)))
            (try simp only [Act.put, z1, z2, z3])
            go_cut [188] (fun v188 wc => ∃ (kq : Nat) (x188_78 : Bool), v188 = .bool x188_78 ∧ Aside0 (laws_FnFoldedExpressions.j3 kq t619 x188_78 = some r) ∧ Aside0 (kq ≤ kj56) ∧ Aside0 (Kd.R k47 47 wc w.heap.size (fun _ => True) (.slice Ao58 t619.length co58) t619) ∧ Aside0 (Below w.heap.size w wc))
            case first =>
             have H := HC79.out
             clear HC79
             by_cases c81 : t665 = true
             ·subst c81
              rw [if_pos rfl] at H
              by_cases c82 : (t664.length : Int) = 0
              ·as_aux_lemma =>
               rw [if_pos c82] at H
               have c82b0 : ((t664.length : Int) == 0) = true := beq_iff_eq.mpr c82
               have c82b1 : ((t664.length : Int) != 0) = false := bne_eq_false_iff_eq.mpr c82
               clear c82
               (first | rw [c82b0] | (simp only [i64_w, i32_w]; rw [c82b0]) | skip)
               have H' := zK H
               clear H
               obtain ⟨Ao83, co83, eo83⟩ := Kd.R_slice HO667.out
               subst eo83
               go_wp2
               go_meet
               case rel => exact ⟨_, (((t619.length : Int) != 1)), ye, H', ⟨by have := HJ7.out; have := HJ24.out; have := HJ56.out; first | omega | exact Nat.le_refl _⟩, ⟨yo⟩, ⟨ya⟩⟩
              ·as_aux_lemma =>
               rw [if_neg c82] at H
               have c82b0 : ((t664.length : Int) == 0) = false := beq_eq_false_iff_ne.mpr c82
               have c82b1 : ((t664.length : Int) != 0) = true := bne_iff_ne.mpr c82
               have c82b2 : ¬ (t664 = []) := fun h_ => c82 (by rw [h_]; rfl)
               (first | rw [c82b0] | (simp only [i64_w, i32_w]; rw [c82b0]) | skip)
               have H' := zK H
               clear H
               obtain ⟨Ao84, co84, eo84⟩ := Kd.R_slice HO667.out
               subst eo84
               go_wp2
               go_meet
               case rel => exact ⟨_, (false), ye, H', ⟨by have := HJ7.out; have := HJ24.out; have := HJ56.out; first | omega | exact Nat.le_refl _⟩, ⟨yo⟩, ⟨ya⟩⟩
             ·replace c81 := Bool.eq_false_iff.mpr c81
              subst c81
              rw [if_neg (show ¬ (false = true) by decide)] at H
              have H' := zK H
              clear H
              go_wp2
              go_meet
              case rel => exact ⟨_, (true), ye, H', ⟨by have := HJ7.out; have := HJ24.out; have := HJ56.out; first | omega | exact Nat.le_refl _⟩, ⟨yo⟩, ⟨ya⟩⟩
            case rest =>
             clear HC79
             try clear c1
             try clear p2
             try clear c3
             try clear c4
             try clear c5
             try clear c6
             try clear c7
             try clear c8
             try clear c13
             try clear c13b0
             try clear c13b1
             try clear c13b2
             try clear c17
             try clear c34
             try clear c34b0
             try clear c34b1
             try clear c34b2
             try clear c35
             try clear c35b0
             try clear c35b1
             try clear c36
             try clear c36b0
             try clear c36b1
             try clear c36b2
             try clear c37
             try clear c38
             try clear c39
             try clear c39b0
             try clear c39b1
             try clear c39b2
             try clear c40
             try clear c41
             try clear c42
             try clear c42b0
             try clear c42b1
             try clear c43
             try clear c44
             try clear c52
             try clear c53
             try clear c62
             try clear c63
             try clear c64
             try clear c65
             try clear c65b0
             try clear c67
             try clear c77
             try clear c81
             try clear c82
             try clear c82b0
             try clear c82b1
             try clear c82b2
             try clear p2
             obtain ⟨kq, x188_78, rfl, HA, HJ78, HO_6, HB⟩ := hcut
             cases kq with
             | zero => exact absurd HA.out (by simp [laws_FnFoldedExpressions.j3])
             | succ kj78 =>
              have H := HA.out
              clear HA
              simp only [laws_FnFoldedExpressions.j3] at H
              by_cases c85 : x188_78 = true
              ·subst c85
               rw [if_pos rfl] at H
               exact absurd ((Option.some.inj H).trans hr) yp1
              ·replace c85 := Bool.eq_false_iff.mpr c85
               subst c85
               rw [if_neg (show ¬ (false = true) by decide)] at H
               have H' := zK H
               clear H
               go_wp2
               go_loopg [191] kj78 (fun kq v191 w' => ∃ (x191_5 : Int), v191 = .int .i64 x191_5 ∧ Aside0 (laws_FnFoldedExpressions.l0 kq t619 t619 (t619.length : Int) x191_5 = some r) ∧ Aside0 (kq ≤ kj78) ∧ Aside0 (Kd.R k47 47 w' w.heap.size (fun _ => True) (.slice Ao58 t619.length co58) t619) ∧ Aside0 (Kd.R k47 47 w' w.heap.size (fun _ => True) (.slice Ao58 t619.length co58) t619) ∧ Aside0 (Below w.heap.size w w'))
               case atStart => exact ⟨(0), ye, H', ⟨Nat.le_refl _⟩, ⟨yo⟩, ⟨yo⟩, ⟨ya⟩⟩
               case round =>
                clear H'
                try clear c1
                try clear p2
                try clear c3
                try clear c4
                try clear c5
                try clear c6
                try clear c7
                try clear c8
                try clear c13
                try clear c13b0
                try clear c13b1
                try clear c13b2
                try clear c17
                try clear c34
                try clear c34b0
                try clear c34b1
                try clear c34b2
                try clear c35
                try clear c35b0
                try clear c35b1
                try clear c36
                try clear c36b0
                try clear c36b1
                try clear c36b2
                try clear c37
                try clear c38
                try clear c39
                try clear c39b0
                try clear c39b1
                try clear c39b2
                try clear c40
                try clear c41
                try clear c42
                try clear c42b0
                try clear c42b1
                try clear c43
                try clear c44
                try clear c52
                try clear c53
                try clear c62
                try clear c63
                try clear c64
                try clear c65
                try clear c65b0
                try clear c67
                try clear c77
                try clear c81
                try clear c82
                try clear c82b0
                try clear c82b1
                try clear c82b2
                try clear c85
                try clear p2
                obtain ⟨x191_5, rfl, HA, HK5, HO_6, HO_189, HB⟩ := hrel
                cases gk with
                | zero => exact absurd HA.out (by simp [laws_FnFoldedExpressions.l0])
                | succ k5 =>
                 have H := HA.out
                 clear HA
                 simp only [laws_FnFoldedExpressions.l0] at H
                 by_cases c86 : x191_5 < (t619.length : Int)
                 ·as_aux_lemma =>
                  rw [if_pos c86] at H
                  have c86b0 : decide (x191_5 < (t619.length : Int)) = true := decide_eq_true c86
                  clear c86
                  by_cases c87 : 0 ≤ x191_5
                  ·as_aux_lemma =>
                   rw [if_pos c87] at H
                   have c87b0 : decide (0 ≤ x191_5) = true := decide_eq_true c87
                   clear c87
                   by_cases c88 : x191_5 < (t619.length : Int)
                   ·as_aux_lemma =>
                    rw [if_pos c88] at H
                    have c88b0 : decide (x191_5 < (t619.length : Int)) = true := decide_eq_true c88
                    clear c88
                    have HC89 := zK H
                    clear H
                    have p668 : 0 ≤ (x191_5 : Int) := zo
                    have q668 : x191_5 < (t619.length : Int) := zo
                    obtain ⟨ad668, e668, hx668_0, hx668_1, hx668_2, hx668_3⟩ := at_T47 (Kd.R_reads' HO_189.out).2.2 x191_5 p668 q668
                    cases e668
                    replace p668 := eq_true p668
                    replace q668 := eq_true q668
                    go_upto_region 30 with (first | ((with_reducible refine gate_dst (N := 32) rfl ?_); (try (refine gate_guard (by rfl) ?_; dsimp only)); refine box_event ?hg (N := 32) ?hd (cs := #[.string (⟨#[]⟩ : ByteArray), .int .i64 0, .int .i64 0, .int .i64 0]) (t := 47) ?hr ?_; (case hd | hg => rfl); (case hr => exact xxa); intro gb669 hg w90 hbox hb; have n0_ := zK (Kd.R_below (Kd.R_elderB yo gb669 (Nat.le_of_eq hg.symm)) hb); have n1_ := zK (Kd.R_below (Kd.R_elderB (yR HO_189.out) gb669 (Nat.le_of_eq hg.symm)) hb); have n2_ := zK (zL ya hb); have n3_ := zK (hbox); have n4_ := zK ((by rw [hg]; exact (zN ya) : w.heap.size ≤ gb669)); have n5_ := n4_; clear HO_6; clear HO_189; clear HB; have HO_6 := n0_; have HO_189 := n1_; have HB := n2_; have BK669 := n3_; have GW669 := n4_; have GE669 := n5_; clear n0_ n1_ n2_ n3_ n4_ n5_; clear hb hbox hg; have hcz91_0 : w90.cell? ⟨gb669, 0, none⟩ = some (.string (⟨#[]⟩ : ByteArray)) := (zI BK669.out 0).trans rfl; have hcz91_1 : w90.cell? ⟨gb669, 1, none⟩ = some (.int .i64 0) := (zI BK669.out 1).trans rfl; have hcz91_2 : w90.cell? ⟨gb669, 2, none⟩ = some (.int .i64 0) := (zI BK669.out 2).trans rfl; have hcz91_3 : w90.cell? ⟨gb669, 3, none⟩ = some (.int .i64 0) := (zI BK669.out 3).trans rfl; have hfz91_0 := zH BK669.out 0; have hfz91_1 := zH BK669.out 1; have hfz91_2 := zH BK669.out 2; have hfz91_3 := zH BK669.out 3))
                    (try simp only [Act.put, z1, z2, z3])
                    go_cut [202] (fun v202 wc => ∃ (kq : Nat) (x202_88 : Bool), v202 = .bool x202_88 ∧ Aside0 (laws_FnFoldedExpressions.j5 kq t619 t619 (t619.length : Int) x191_5 x202_88 ((rd_T47 t619 x191_5).f0) ((rd_T47 t619 x191_5).f1) ((rd_T47 t619 x191_5).f2) ((rd_T47 t619 x191_5).f3) = some r) ∧ Aside0 (kq ≤ k5) ∧ Aside0 (Kd.R k47 47 wc w.heap.size (fun k_ => k_ ≠ gb669) (.slice (some ad668) t619.length co58) t619) ∧ Aside0 (Kd.R k47 47 wc w.heap.size (fun k_ => k_ ≠ gb669) (.slice (some ad668) t619.length co58) t619) ∧ Aside0 (wc.heap[gb669]? = some (.cells #[.string ((rd_T47 t619 x191_5).f0), .int .i64 ((rd_T47 t619 x191_5).f1), .int .i64 ((rd_T47 t619 x191_5).f2), .int .i64 ((rd_T47 t619 x191_5).f3)] 47 (0, 0))) ∧ Aside0 (Below w.heap.size w wc))
                    case first =>
                     have H := HC89.out
                     clear HC89
                     by_cases c92 : ((rd_T47 t619 x191_5).f0).toList = ([110, 111, 116] : List UInt8)
                     ·as_aux_lemma =>
                      rw [if_pos c92] at H
                      have c92b0 : (((rd_T47 t619 x191_5).f0).toList == ([110, 111, 116] : List UInt8)) = true := beq_iff_eq.mpr c92
                      have c92b1 : (((rd_T47 t619 x191_5).f0).toList != ([110, 111, 116] : List UInt8)) = false := bne_eq_false_iff_eq.mpr c92
                      clear c92
                      (first | rw [c92b0] | (simp only [i64_w, i32_w]; rw [c92b0]) | skip)
                      have H' := zK H
                      clear H
                      have hcz93_0 : w90.cell? ⟨gb669, 0, none⟩ = some (.string (⟨#[]⟩ : ByteArray)) := (zI BK669.out 0).trans rfl
                      have hcz93_1 : w90.cell? ⟨gb669, 1, none⟩ = some (.int .i64 0) := (zI BK669.out 1).trans rfl
                      have hcz93_2 : w90.cell? ⟨gb669, 2, none⟩ = some (.int .i64 0) := (zI BK669.out 2).trans rfl
                      have hcz93_3 : w90.cell? ⟨gb669, 3, none⟩ = some (.int .i64 0) := (zI BK669.out 3).trans rfl
                      have hfz93_0 := zH BK669.out 0
                      have hfz93_1 := zH BK669.out 1
                      have hfz93_2 := zH BK669.out 2
                      have hfz93_3 := zH BK669.out 3
                      go_wp2
                      go_meet
                      case rel => exact ⟨_, (true), ye, H', ⟨by have := HJ7.out; have := HJ24.out; have := HJ56.out; have := HJ78.out; have := HK5.out; first | omega | exact Nat.le_refl _⟩, ⟨by (with_reducible repeat (first | apply Kd.R_alloc | apply Kd.R_drewN | apply Kd.R_drew)); exact Kd.R_mono (Kd.R_far (p := ⟨gb669, 3, none⟩) (Kd.R_far (p := ⟨gb669, 2, none⟩) (Kd.R_far (p := ⟨gb669, 1, none⟩) (Kd.R_far (p := ⟨gb669, 0, none⟩) (Kd.R_mono HO_6.out (fun k_ hk => (⟨hk, hk.2⟩ : _ ∧ k_ ≠ gb669))) (fun _ hk => hk.2) (.string ((rd_T47 t619 x191_5).f0))) (fun _ hk => hk.2) (.int .i64 ((rd_T47 t619 x191_5).f1))) (fun _ hk => hk.2) (.int .i64 ((rd_T47 t619 x191_5).f2))) (fun _ hk => hk.2) (.int .i64 ((rd_T47 t619 x191_5).f3))) (fun _ hk => hk.1.2)⟩, ⟨by (with_reducible repeat (first | apply Kd.R_alloc | apply Kd.R_drewN | apply Kd.R_drew)); exact Kd.R_mono (Kd.R_far (p := ⟨gb669, 3, none⟩) (Kd.R_far (p := ⟨gb669, 2, none⟩) (Kd.R_far (p := ⟨gb669, 1, none⟩) (Kd.R_far (p := ⟨gb669, 0, none⟩) (Kd.R_mono HO_189.out (fun k_ hk => (⟨hk, hk.2⟩ : _ ∧ k_ ≠ gb669))) (fun _ hk => hk.2) (.string ((rd_T47 t619 x191_5).f0))) (fun _ hk => hk.2) (.int .i64 ((rd_T47 t619 x191_5).f1))) (fun _ hk => hk.2) (.int .i64 ((rd_T47 t619 x191_5).f2))) (fun _ hk => hk.2) (.int .i64 ((rd_T47 t619 x191_5).f3))) (fun _ hk => hk.1.2)⟩, ⟨by (with_reducible repeat (first | refine zE ?_ _ | refine zF ?_ | refine zG ?_ _)); refine blk_put (cs := #[.string ((rd_T47 t619 x191_5).f0), .int .i64 ((rd_T47 t619 x191_5).f1), .int .i64 ((rd_T47 t619 x191_5).f2), .int .i64 0]) ?_ 3 _ rfl; (with_reducible repeat (first | refine zE ?_ _ | refine zF ?_ | refine zG ?_ _)); refine blk_put (cs := #[.string ((rd_T47 t619 x191_5).f0), .int .i64 ((rd_T47 t619 x191_5).f1), .int .i64 0, .int .i64 0]) ?_ 2 _ rfl; (with_reducible repeat (first | refine zE ?_ _ | refine zF ?_ | refine zG ?_ _)); refine blk_put (cs := #[.string ((rd_T47 t619 x191_5).f0), .int .i64 0, .int .i64 0, .int .i64 0]) ?_ 1 _ rfl; (with_reducible repeat (first | refine zE ?_ _ | refine zF ?_ | refine zG ?_ _)); refine blk_put (cs := #[.string (⟨#[]⟩ : ByteArray), .int .i64 0, .int .i64 0, .int .i64 0]) ?_ 0 _ rfl; (with_reducible repeat (first | refine zE ?_ _ | refine zF ?_ | refine zG ?_ _)); exact BK669.out⟩, ⟨ys1⟩⟩
                     ·as_aux_lemma =>
                      rw [if_neg c92] at H
                      have c92b0 : (((rd_T47 t619 x191_5).f0).toList == ([110, 111, 116] : List UInt8)) = false := beq_eq_false_iff_ne.mpr c92
                      have c92b1 : (((rd_T47 t619 x191_5).f0).toList != ([110, 111, 116] : List UInt8)) = true := bne_iff_ne.mpr c92
                      (first | rw [c92b0] | (simp only [i64_w, i32_w]; rw [c92b0]) | skip)
                      have H' := zK H
                      clear H
                      have hcz94_0 : w90.cell? ⟨gb669, 0, none⟩ = some (.string (⟨#[]⟩ : ByteArray)) := (zI BK669.out 0).trans rfl
                      have hcz94_1 : w90.cell? ⟨gb669, 1, none⟩ = some (.int .i64 0) := (zI BK669.out 1).trans rfl
                      have hcz94_2 : w90.cell? ⟨gb669, 2, none⟩ = some (.int .i64 0) := (zI BK669.out 2).trans rfl
                      have hcz94_3 : w90.cell? ⟨gb669, 3, none⟩ = some (.int .i64 0) := (zI BK669.out 3).trans rfl
                      have hfz94_0 := zH BK669.out 0
                      have hfz94_1 := zH BK669.out 1
                      have hfz94_2 := zH BK669.out 2
                      have hfz94_3 := zH BK669.out 3
                      go_wp2
                      go_meet
                      case rel => exact ⟨_, ((((rd_T47 t619 x191_5).f0).toList == ([110, 101, 103] : List UInt8))), ye, H', ⟨by have := HJ7.out; have := HJ24.out; have := HJ56.out; have := HJ78.out; have := HK5.out; first | omega | exact Nat.le_refl _⟩, ⟨by (with_reducible repeat (first | apply Kd.R_alloc | apply Kd.R_drewN | apply Kd.R_drew)); exact Kd.R_mono (Kd.R_far (p := ⟨gb669, 3, none⟩) (Kd.R_far (p := ⟨gb669, 2, none⟩) (Kd.R_far (p := ⟨gb669, 1, none⟩) (Kd.R_far (p := ⟨gb669, 0, none⟩) (Kd.R_mono HO_6.out (fun k_ hk => (⟨hk, hk.2⟩ : _ ∧ k_ ≠ gb669))) (fun _ hk => hk.2) (.string ((rd_T47 t619 x191_5).f0))) (fun _ hk => hk.2) (.int .i64 ((rd_T47 t619 x191_5).f1))) (fun _ hk => hk.2) (.int .i64 ((rd_T47 t619 x191_5).f2))) (fun _ hk => hk.2) (.int .i64 ((rd_T47 t619 x191_5).f3))) (fun _ hk => hk.1.2)⟩, ⟨by (with_reducible repeat (first | apply Kd.R_alloc | apply Kd.R_drewN | apply Kd.R_drew)); exact Kd.R_mono (Kd.R_far (p := ⟨gb669, 3, none⟩) (Kd.R_far (p := ⟨gb669, 2, none⟩) (Kd.R_far (p := ⟨gb669, 1, none⟩) (Kd.R_far (p := ⟨gb669, 0, none⟩) (Kd.R_mono HO_189.out (fun k_ hk => (⟨hk, hk.2⟩ : _ ∧ k_ ≠ gb669))) (fun _ hk => hk.2) (.string ((rd_T47 t619 x191_5).f0))) (fun _ hk => hk.2) (.int .i64 ((rd_T47 t619 x191_5).f1))) (fun _ hk => hk.2) (.int .i64 ((rd_T47 t619 x191_5).f2))) (fun _ hk => hk.2) (.int .i64 ((rd_T47 t619 x191_5).f3))) (fun _ hk => hk.1.2)⟩, ⟨by (with_reducible repeat (first | refine zE ?_ _ | refine zF ?_ | refine zG ?_ _)); refine blk_put (cs := #[.string ((rd_T47 t619 x191_5).f0), .int .i64 ((rd_T47 t619 x191_5).f1), .int .i64 ((rd_T47 t619 x191_5).f2), .int .i64 0]) ?_ 3 _ rfl; (with_reducible repeat (first | refine zE ?_ _ | refine zF ?_ | refine zG ?_ _)); refine blk_put (cs := #[.string ((rd_T47 t619 x191_5).f0), .int .i64 ((rd_T47 t619 x191_5).f1), .int .i64 0, .int .i64 0]) ?_ 2 _ rfl; (with_reducible repeat (first | refine zE ?_ _ | refine zF ?_ | refine zG ?_ _)); refine blk_put (cs := #[.string ((rd_T47 t619 x191_5).f0), .int .i64 0, .int .i64 0, .int .i64 0]) ?_ 1 _ rfl; (with_reducible repeat (first | refine zE ?_ _ | refine zF ?_ | refine zG ?_ _)); refine blk_put (cs := #[.string (⟨#[]⟩ : ByteArray), .int .i64 0, .int .i64 0, .int .i64 0]) ?_ 0 _ rfl; (with_reducible repeat (first | refine zE ?_ _ | refine zF ?_ | refine zG ?_ _)); exact BK669.out⟩, ⟨ys1⟩⟩
                    case rest =>
                     clear HC89
                     try clear c1
                     try clear p2
                     try clear c3
                     try clear c4
                     try clear c5
                     try clear c6
                     try clear p6
                     try clear q6
                     try clear hx6
                     try clear c7
                     try clear c8
                     try clear c9
                     try clear c13
                     try clear c13b0
                     try clear c13b1
                     try clear c13b2
                     try clear c17
                     try clear c34
                     try clear c34b0
                     try clear c34b1
                     try clear c34b2
                     try clear c35
                     try clear c35b0
                     try clear c35b1
                     try clear c36
                     try clear c36b0
                     try clear c36b1
                     try clear c36b2
                     try clear c37
                     try clear c38
                     try clear c39
                     try clear c39b0
                     try clear c39b1
                     try clear c39b2
                     try clear c40
                     try clear c41
                     try clear c42
                     try clear c42b0
                     try clear c42b1
                     try clear c43
                     try clear c44
                     try clear c52
                     try clear c53
                     try clear c62
                     try clear c63
                     try clear c64
                     try clear c65
                     try clear c65b0
                     try clear p66
                     try clear q66
                     try clear hx66
                     try clear c67
                     try clear c77
                     try clear c81
                     try clear c82
                     try clear c82b0
                     try clear c82b1
                     try clear c82b2
                     try clear c85
                     try clear c86
                     try clear c86b0
                     try clear c87
                     try clear c87b0
                     try clear c88
                     try clear c88b0
                     try clear c92
                     try clear c92b0
                     try clear c92b1
                     try clear hcz91_0
                     try clear hcz91_1
                     try clear hcz91_2
                     try clear hcz91_3
                     try clear hcz93_0
                     try clear hcz93_1
                     try clear hcz93_2
                     try clear hcz93_3
                     try clear hcz94_0
                     try clear hcz94_1
                     try clear hcz94_2
                     try clear hcz94_3
                     try clear hfz91_0
                     try clear hfz91_1
                     try clear hfz91_2
                     try clear hfz91_3
                     try clear hfz93_0
                     try clear hfz93_1
                     try clear hfz93_2
                     try clear hfz93_3
                     try clear hfz94_0
                     try clear hfz94_1
                     try clear hfz94_2
                     try clear hfz94_3
                     try clear hx668_0
                     try clear hx668_1
                     try clear hx668_2
                     try clear hx668_3
                     try clear p2
                     try clear p668
                     try clear q668
                     obtain ⟨kq, x202_88, rfl, HA, HJ88, HO_6, HO_189, BK669, HB⟩ := hcut
                     cases kq with
                     | zero => exact absurd HA.out (by simp [laws_FnFoldedExpressions.j5])
                     | succ kj88 =>
                      have H := HA.out
                      clear HA
                      simp only [laws_FnFoldedExpressions.j5] at H
                      by_cases c95 : x202_88 = true
                      ·subst c95
                       rw [if_pos rfl] at H
                       by_cases c96 : 0 ≤ ((rd_T47 t619 x191_5).f1)
                       ·as_aux_lemma =>
                        rw [if_pos c96] at H
                        have c96b0 : decide (0 ≤ ((rd_T47 t619 x191_5).f1)) = true := decide_eq_true c96
                        clear c96
                        by_cases c97 : ((rd_T47 t619 x191_5).f1) < (t619.length : Int)
                        ·as_aux_lemma =>
                         rw [if_pos c97] at H
                         have c97b0 : decide (((rd_T47 t619 x191_5).f1) < (t619.length : Int)) = true := decide_eq_true c97
                         clear c97
                         by_cases c98 : ((rd_T47 t619 ((rd_T47 t619 x191_5).f1)).f0).toList = ([99, 111, 110, 115, 116] : List UInt8)
                         ·as_aux_lemma =>
                          rw [if_pos c98] at H
                          have c98b0 : (((rd_T47 t619 ((rd_T47 t619 x191_5).f1)).f0).toList == ([99, 111, 110, 115, 116] : List UInt8)) = true := beq_iff_eq.mpr c98
                          have c98b1 : (((rd_T47 t619 ((rd_T47 t619 x191_5).f1)).f0).toList != ([99, 111, 110, 115, 116] : List UInt8)) = false := bne_eq_false_iff_eq.mpr c98
                          clear c98
                          exact absurd ((Option.some.inj H).trans hr) yp1
                         ·as_aux_lemma =>
                          rw [if_neg c98] at H
                          have c98b0 : (((rd_T47 t619 ((rd_T47 t619 x191_5).f1)).f0).toList == ([99, 111, 110, 115, 116] : List UInt8)) = false := beq_eq_false_iff_ne.mpr c98
                          have c98b1 : (((rd_T47 t619 ((rd_T47 t619 x191_5).f1)).f0).toList != ([99, 111, 110, 115, 116] : List UInt8)) = true := bne_iff_ne.mpr c98
                          have H' := zK H
                          clear H
                          have hcz100_0 : wc.cell? ⟨gb669, 0, none⟩ = some (.string ((rd_T47 t619 x191_5).f0)) := (zI BK669.out 0).trans rfl
                          have hcz100_1 : wc.cell? ⟨gb669, 1, none⟩ = some (.int .i64 ((rd_T47 t619 x191_5).f1)) := (zI BK669.out 1).trans rfl
                          have hcz100_2 : wc.cell? ⟨gb669, 2, none⟩ = some (.int .i64 ((rd_T47 t619 x191_5).f2)) := (zI BK669.out 2).trans rfl
                          have hcz100_3 : wc.cell? ⟨gb669, 3, none⟩ = some (.int .i64 ((rd_T47 t619 x191_5).f3)) := (zI BK669.out 3).trans rfl
                          have hfz100_0 := zH BK669.out 0
                          have hfz100_1 := zH BK669.out 1
                          have hfz100_2 := zH BK669.out 2
                          have hfz100_3 := zH BK669.out 3
                          have p670 : 0 ≤ (((rd_T47 t619 x191_5).f1) : Int) := zo
                          have q670 : ((rd_T47 t619 x191_5).f1) < (t619.length : Int) := zo
                          obtain ⟨ad670, e670, hx670_0, hx670_1, hx670_2, hx670_3⟩ := at_T47 (Kd.R_reads' HO_6.out).2.2 ((rd_T47 t619 x191_5).f1) p670 q670
                          obtain rfl : ad668 = ad670 := (by injection e670)
                          replace p670 := eq_true p670
                          replace q670 := eq_true q670
                          go_wp2
                          go_roundg kj88
                          case measure => have := HJ7.out; have := HJ24.out; have := HJ56.out; have := HJ78.out; have := HK5.out; have := HJ88.out; omega
                          case rel => exact ⟨(wrap64 (x191_5 + 1)), ye, H', ⟨by have := HJ7.out; have := HJ24.out; have := HJ56.out; have := HJ78.out; have := HK5.out; have := HJ88.out; omega⟩, ⟨yw⟩, ⟨yd2⟩, ⟨ys1⟩⟩
                        ·as_aux_lemma =>
                         rw [if_neg c97] at H
                         exact absurd H ye1
                       ·as_aux_lemma =>
                        rw [if_neg c96] at H
                        exact absurd H ye1
                      ·replace c95 := Bool.eq_false_iff.mpr c95
                       subst c95
                       rw [if_neg (show ¬ (false = true) by decide)] at H
                       by_cases c101 : ((rd_T47 t619 x191_5).f0).toList = ([105, 110] : List UInt8)
                       ·as_aux_lemma =>
                        rw [if_pos c101] at H
                        have c101b0 : (((rd_T47 t619 x191_5).f0).toList == ([105, 110] : List UInt8)) = true := beq_iff_eq.mpr c101
                        have c101b1 : (((rd_T47 t619 x191_5).f0).toList != ([105, 110] : List UInt8)) = false := bne_eq_false_iff_eq.mpr c101
                        clear c101
                        have H' := zK H
                        clear H
                        have hcz102_0 : wc.cell? ⟨gb669, 0, none⟩ = some (.string ((rd_T47 t619 x191_5).f0)) := (zI BK669.out 0).trans rfl
                        have hcz102_1 : wc.cell? ⟨gb669, 1, none⟩ = some (.int .i64 ((rd_T47 t619 x191_5).f1)) := (zI BK669.out 1).trans rfl
                        have hcz102_2 : wc.cell? ⟨gb669, 2, none⟩ = some (.int .i64 ((rd_T47 t619 x191_5).f2)) := (zI BK669.out 2).trans rfl
                        have hcz102_3 : wc.cell? ⟨gb669, 3, none⟩ = some (.int .i64 ((rd_T47 t619 x191_5).f3)) := (zI BK669.out 3).trans rfl
                        have hfz102_0 := zH BK669.out 0
                        have hfz102_1 := zH BK669.out 1
                        have hfz102_2 := zH BK669.out 2
                        have hfz102_3 := zH BK669.out 3
                        go_wp2
                        go_roundg kj88
                        case measure => have := HJ7.out; have := HJ24.out; have := HJ56.out; have := HJ78.out; have := HK5.out; have := HJ88.out; omega
                        case rel => exact ⟨(wrap64 (x191_5 + 1)), ye, H', ⟨by have := HJ7.out; have := HJ24.out; have := HJ56.out; have := HJ78.out; have := HK5.out; have := HJ88.out; omega⟩, ⟨yw⟩, ⟨yd2⟩, ⟨ys1⟩⟩
                       ·as_aux_lemma =>
                        rw [if_neg c101] at H
                        have c101b0 : (((rd_T47 t619 x191_5).f0).toList == ([105, 110] : List UInt8)) = false := beq_eq_false_iff_ne.mpr c101
                        have c101b1 : (((rd_T47 t619 x191_5).f0).toList != ([105, 110] : List UInt8)) = true := bne_iff_ne.mpr c101
                        by_cases c103 : ((rd_T47 t619 x191_5).f0).toList = ([99, 111, 110, 115, 116] : List UInt8)
                        ·as_aux_lemma =>
                         rw [if_pos c103] at H
                         have c103b0 : (((rd_T47 t619 x191_5).f0).toList == ([99, 111, 110, 115, 116] : List UInt8)) = true := beq_iff_eq.mpr c103
                         have c103b1 : (((rd_T47 t619 x191_5).f0).toList != ([99, 111, 110, 115, 116] : List UInt8)) = false := bne_eq_false_iff_eq.mpr c103
                         clear c103
                         have H' := zK H
                         clear H
                         have hcz104_0 : wc.cell? ⟨gb669, 0, none⟩ = some (.string ((rd_T47 t619 x191_5).f0)) := (zI BK669.out 0).trans rfl
                         have hcz104_1 : wc.cell? ⟨gb669, 1, none⟩ = some (.int .i64 ((rd_T47 t619 x191_5).f1)) := (zI BK669.out 1).trans rfl
                         have hcz104_2 : wc.cell? ⟨gb669, 2, none⟩ = some (.int .i64 ((rd_T47 t619 x191_5).f2)) := (zI BK669.out 2).trans rfl
                         have hcz104_3 : wc.cell? ⟨gb669, 3, none⟩ = some (.int .i64 ((rd_T47 t619 x191_5).f3)) := (zI BK669.out 3).trans rfl
                         have hfz104_0 := zH BK669.out 0
                         have hfz104_1 := zH BK669.out 1
                         have hfz104_2 := zH BK669.out 2
                         have hfz104_3 := zH BK669.out 3
                         go_wp2
                         go_roundg kj88
                         case measure => have := HJ7.out; have := HJ24.out; have := HJ56.out; have := HJ78.out; have := HK5.out; have := HJ88.out; omega
                         case rel => exact ⟨(wrap64 (x191_5 + 1)), ye, H', ⟨by have := HJ7.out; have := HJ24.out; have := HJ56.out; have := HJ78.out; have := HK5.out; have := HJ88.out; omega⟩, ⟨yw⟩, ⟨yd2⟩, ⟨ys1⟩⟩
                        ·as_aux_lemma =>
                         rw [if_neg c103] at H
                         have c103b0 : (((rd_T47 t619 x191_5).f0).toList == ([99, 111, 110, 115, 116] : List UInt8)) = false := beq_eq_false_iff_ne.mpr c103
                         have c103b1 : (((rd_T47 t619 x191_5).f0).toList != ([99, 111, 110, 115, 116] : List UInt8)) = true := bne_iff_ne.mpr c103
                         by_cases c105 : 0 ≤ ((rd_T47 t619 x191_5).f1)
                         ·as_aux_lemma =>
                          rw [if_pos c105] at H
                          have c105b0 : decide (0 ≤ ((rd_T47 t619 x191_5).f1)) = true := decide_eq_true c105
                          clear c105
                          by_cases c106 : ((rd_T47 t619 x191_5).f1) < (t619.length : Int)
                          ·as_aux_lemma =>
                           rw [if_pos c106] at H
                           have c106b0 : decide (((rd_T47 t619 x191_5).f1) < (t619.length : Int)) = true := decide_eq_true c106
                           clear c106
                           by_cases c107 : ((rd_T47 t619 ((rd_T47 t619 x191_5).f1)).f0).toList = ([99, 111, 110, 115, 116] : List UInt8)
                           ·as_aux_lemma =>
                            rw [if_pos c107] at H
                            have c107b0 : (((rd_T47 t619 ((rd_T47 t619 x191_5).f1)).f0).toList == ([99, 111, 110, 115, 116] : List UInt8)) = true := beq_iff_eq.mpr c107
                            have c107b1 : (((rd_T47 t619 ((rd_T47 t619 x191_5).f1)).f0).toList != ([99, 111, 110, 115, 116] : List UInt8)) = false := bne_eq_false_iff_eq.mpr c107
                            clear c107
                            by_cases c108 : 0 ≤ ((rd_T47 t619 x191_5).f2)
                            ·as_aux_lemma =>
                             rw [if_pos c108] at H
                             have c108b0 : decide (0 ≤ ((rd_T47 t619 x191_5).f2)) = true := decide_eq_true c108
                             clear c108
                             by_cases c109 : ((rd_T47 t619 x191_5).f2) < (t619.length : Int)
                             ·as_aux_lemma =>
                              rw [if_pos c109] at H
                              have c109b0 : decide (((rd_T47 t619 x191_5).f2) < (t619.length : Int)) = true := decide_eq_true c109
                              clear c109
                              by_cases c110 : ((rd_T47 t619 ((rd_T47 t619 x191_5).f2)).f0).toList = ([99, 111, 110, 115, 116] : List UInt8)
                              ·as_aux_lemma =>
                               rw [if_pos c110] at H
                               have c110b0 : (((rd_T47 t619 ((rd_T47 t619 x191_5).f2)).f0).toList == ([99, 111, 110, 115, 116] : List UInt8)) = true := beq_iff_eq.mpr c110
                               have c110b1 : (((rd_T47 t619 ((rd_T47 t619 x191_5).f2)).f0).toList != ([99, 111, 110, 115, 116] : List UInt8)) = false := bne_eq_false_iff_eq.mpr c110
                               clear c110
                               exact absurd ((Option.some.inj H).trans hr) yp1
                              ·as_aux_lemma =>
                               rw [if_neg c110] at H
                               have c110b0 : (((rd_T47 t619 ((rd_T47 t619 x191_5).f2)).f0).toList == ([99, 111, 110, 115, 116] : List UInt8)) = false := beq_eq_false_iff_ne.mpr c110
                               have c110b1 : (((rd_T47 t619 ((rd_T47 t619 x191_5).f2)).f0).toList != ([99, 111, 110, 115, 116] : List UInt8)) = true := bne_iff_ne.mpr c110
                               have H' := zK H
                               clear H
                               have hcz112_0 : wc.cell? ⟨gb669, 0, none⟩ = some (.string ((rd_T47 t619 x191_5).f0)) := (zI BK669.out 0).trans rfl
                               have hcz112_1 : wc.cell? ⟨gb669, 1, none⟩ = some (.int .i64 ((rd_T47 t619 x191_5).f1)) := (zI BK669.out 1).trans rfl
                               have hcz112_2 : wc.cell? ⟨gb669, 2, none⟩ = some (.int .i64 ((rd_T47 t619 x191_5).f2)) := (zI BK669.out 2).trans rfl
                               have hcz112_3 : wc.cell? ⟨gb669, 3, none⟩ = some (.int .i64 ((rd_T47 t619 x191_5).f3)) := (zI BK669.out 3).trans rfl
                               have hfz112_0 := zH BK669.out 0
                               have hfz112_1 := zH BK669.out 1
                               have hfz112_2 := zH BK669.out 2
                               have hfz112_3 := zH BK669.out 3
                               have p671 : 0 ≤ (((rd_T47 t619 x191_5).f1) : Int) := zo
                               have q671 : ((rd_T47 t619 x191_5).f1) < (t619.length : Int) := zo
                               obtain ⟨ad671, e671, hx671_0, hx671_1, hx671_2, hx671_3⟩ := at_T47 (Kd.R_reads' HO_6.out).2.2 ((rd_T47 t619 x191_5).f1) p671 q671
                               obtain rfl : ad668 = ad671 := (by injection e671)
                               replace p671 := eq_true p671
                               replace q671 := eq_true q671
                               have p672 : 0 ≤ (((rd_T47 t619 x191_5).f2) : Int) := zo
                               have q672 : ((rd_T47 t619 x191_5).f2) < (t619.length : Int) := zo
                               obtain ⟨ad672, e672, hx672_0, hx672_1, hx672_2, hx672_3⟩ := at_T47 (Kd.R_reads' HO_6.out).2.2 ((rd_T47 t619 x191_5).f2) p672 q672
                               obtain rfl : ad668 = ad672 := (by injection e672)
                               replace p672 := eq_true p672
                               replace q672 := eq_true q672
                               go_wp2
                               go_roundg kj88
                               case measure => have := HJ7.out; have := HJ24.out; have := HJ56.out; have := HJ78.out; have := HK5.out; have := HJ88.out; omega
                               case rel => exact ⟨(wrap64 (x191_5 + 1)), ye, H', ⟨by have := HJ7.out; have := HJ24.out; have := HJ56.out; have := HJ78.out; have := HK5.out; have := HJ88.out; omega⟩, ⟨yw⟩, ⟨yd2⟩, ⟨ys1⟩⟩
                             ·as_aux_lemma =>
                              rw [if_neg c109] at H
                              exact absurd H ye1
                            ·as_aux_lemma =>
                             rw [if_neg c108] at H
                             exact absurd H ye1
                           ·as_aux_lemma =>
                            rw [if_neg c107] at H
                            have c107b0 : (((rd_T47 t619 ((rd_T47 t619 x191_5).f1)).f0).toList == ([99, 111, 110, 115, 116] : List UInt8)) = false := beq_eq_false_iff_ne.mpr c107
                            have c107b1 : (((rd_T47 t619 ((rd_T47 t619 x191_5).f1)).f0).toList != ([99, 111, 110, 115, 116] : List UInt8)) = true := bne_iff_ne.mpr c107
                            have H' := zK H
                            clear H
                            have hcz113_0 : wc.cell? ⟨gb669, 0, none⟩ = some (.string ((rd_T47 t619 x191_5).f0)) := (zI BK669.out 0).trans rfl
                            have hcz113_1 : wc.cell? ⟨gb669, 1, none⟩ = some (.int .i64 ((rd_T47 t619 x191_5).f1)) := (zI BK669.out 1).trans rfl
                            have hcz113_2 : wc.cell? ⟨gb669, 2, none⟩ = some (.int .i64 ((rd_T47 t619 x191_5).f2)) := (zI BK669.out 2).trans rfl
                            have hcz113_3 : wc.cell? ⟨gb669, 3, none⟩ = some (.int .i64 ((rd_T47 t619 x191_5).f3)) := (zI BK669.out 3).trans rfl
                            have hfz113_0 := zH BK669.out 0
                            have hfz113_1 := zH BK669.out 1
                            have hfz113_2 := zH BK669.out 2
                            have hfz113_3 := zH BK669.out 3
                            have p671 : 0 ≤ (((rd_T47 t619 x191_5).f1) : Int) := zo
                            have q671 : ((rd_T47 t619 x191_5).f1) < (t619.length : Int) := zo
                            obtain ⟨ad671, e671, hx671_0, hx671_1, hx671_2, hx671_3⟩ := at_T47 (Kd.R_reads' HO_6.out).2.2 ((rd_T47 t619 x191_5).f1) p671 q671
                            obtain rfl : ad668 = ad671 := (by injection e671)
                            replace p671 := eq_true p671
                            replace q671 := eq_true q671
                            go_wp2
                            go_roundg kj88
                            case measure => have := HJ7.out; have := HJ24.out; have := HJ56.out; have := HJ78.out; have := HK5.out; have := HJ88.out; omega
                            case rel => exact ⟨(wrap64 (x191_5 + 1)), ye, H', ⟨by have := HJ7.out; have := HJ24.out; have := HJ56.out; have := HJ78.out; have := HK5.out; have := HJ88.out; omega⟩, ⟨yw⟩, ⟨yd2⟩, ⟨ys1⟩⟩
                          ·as_aux_lemma =>
                           rw [if_neg c106] at H
                           exact absurd H ye1
                         ·as_aux_lemma =>
                          rw [if_neg c105] at H
                          exact absurd H ye1
                   ·as_aux_lemma =>
                    rw [if_neg c88] at H
                    exact absurd H ye1
                  ·as_aux_lemma =>
                   rw [if_neg c87] at H
                   exact absurd H ye1
                 ·as_aux_lemma =>
                  rw [if_neg c86] at H
                  have c86b0 : decide (x191_5 < (t619.length : Int)) = false := decide_eq_false c86
                  clear c86
                  obtain rfl := Option.some.inj H
                  go_wp2
                  go_ret
                  exact ⟨yd, ya⟩
        ·replace c53 := Bool.eq_false_iff.mpr c53
         subst c53
         rw [if_neg (show ¬ (false = true) by decide)] at H
         obtain rfl := Option.some.inj H
         go_wp2
         go_ret
         exact ⟨yd, ya⟩

/-- THE ONE PURE STATEMENT of laws_FnFoldedExpressions: yours. -/
def laws_FnFoldedExpressions.Pure : Prop := ∀ (l0 : List Int) (l1 : List Int), l0.length ≤ maxLen → l0.length * 1 ≤ 140737488351232 → (∀ x ∈ l0, (Lit.int .u8 x).wf = true) → l1.length ≤ maxLen → l1.length * 1 ≤ 140737488351232 → (∀ x ∈ l1, (Lit.int .u8 x).wf = true) → ∃ k, laws_FnFoldedExpressions.f k l0 l1 = some true
theorem laws_FnFoldedExpressions.walk (P : laws_FnFoldedExpressions.Pure) (a0 : Option Addr) (len0 cap0 : Nat) (z0 : List Int) (a1 : Option Addr) (len1 cap1 : Nat) (z1 : List Int) (w : World) (w0 : (a0 = none ∧ len0 = 0 ∧ cap0 = 0 ∧ z0 = []) ∨ ∃ x, a0 = some x ∧ len0 ≤ cap0 ∧ cap0 ≤ maxLen ∧ z0.length = cap0 ∧ (∀ i, i < z0.length → w.cell? (x.add i) = some (.int .u8 (z0.getD i 0))) ∧ ∀ n ∈ z0, (Lit.int .u8 n).wf = true) (y0 : len0 * 1 ≤ 140737488351232) (w1 : (a1 = none ∧ len1 = 0 ∧ cap1 = 0 ∧ z1 = []) ∨ ∃ x, a1 = some x ∧ len1 ≤ cap1 ∧ cap1 ≤ maxLen ∧ z1.length = cap1 ∧ (∀ i, i < z1.length → w.cell? (x.add i) = some (.int .u8 (z1.getD i 0))) ∧ ∀ n ∈ z1, (Lit.int .u8 n).wf = true) (y1 : len1 * 1 ≤ 140737488351232) :
  Calls Try.prog 6 #[.slice a0 len0 cap0, .slice a1 len1 cap1] w fun e w' => e = .returned (.bool true) ∧ Below w.heap.size w w' := by
 obtain ⟨l0, rfl, hr0, hm0, hw0, hc0⟩ := ReadsInt.ofRowC w0
 obtain ⟨l1, rfl, hr1, hm1, hw1, hc1⟩ := ReadsInt.ofRowC w1
 obtain ⟨k, h⟩ := P l0 l1 hm0 y0 hw0 hm1 y1 hw1
 refine (laws_FnFoldedExpressions.calls k _ _ l0 _ _ l1 true w (Kd.C_of_reads (d := (0 : Int)) (h1 := fun _ => rfl) hr0) hc0 (Kd.C_of_reads (d := (0 : Int)) (h1 := fun _ => rfl) hr1) hc1 h rfl).mono ?_
 rintro e w' ⟨rfl, hd⟩
 exact ⟨rfl, hd⟩

end Go.Proofs.Ytlcplhcccgbmnaa.D
