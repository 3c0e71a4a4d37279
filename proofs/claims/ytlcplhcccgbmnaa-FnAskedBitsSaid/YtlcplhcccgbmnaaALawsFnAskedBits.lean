/- Contracts: laws_FnAskedBits. -/
import Derived.Test.YtlcplhcccgbmnaaAK
import Derived.Test.YtlcplhcccgbmnaaALawsBig
import Derived.Test.YtlcplhcccgbmnaaASpecL1Most
import Derived.Test.YtlcplhcccgbmnaaASpecAskedBits
namespace Go.Proofs.Ytlcplhcccgbmnaa.A
open Go.RowKit Go.Proofs.YtlcplhcccgbmnaaW.PrintWords Go.Proofs.YtlcplhcccgbmnaaW.PrintLast Go.Proofs.YtlcplhcccgbmnaaW.PrintMore
attribute [local go_sem] max2_int min2_int max_two min_two max_three min_three max_four min_four   -- for this text's walks alone
set_option linter.unusedVariables false
set_option linter.unusedSimpArgs false

/-! ### laws_FnAskedBits: function 5 -/
mutual
def laws_FnAskedBits.j0 : Nat → List (S47) → Int → Int → Bool → Bool → Option (Bool)
 | 0, _, _, _, _, _ => none
 | k + 1, x5, x6, x7, x8, x43 => if x43 = true then (some false) else (if x8 = true then (if x6 = (wrap64 ((x5.length : Int) - 1)) then (laws_FnAskedBits.j1 k x5 x6 x7 (x7 != 63)) else (laws_FnAskedBits.j1 k x5 x6 x7 false)) else (some true))
def laws_FnAskedBits.j1 : Nat → List (S47) → Int → Int → Bool → Option (Bool)
 | 0, _, _, _, _ => none
 | k + 1, x5, x6, x7, x54 => if x54 = true then (some false) else (if 0 ≤ x6 then (if x6 < (x5.length : Int) then (if ((rd_T47 x5 x6).f0).toList = ([105, 110] : List UInt8) then (laws_FnAskedBits.l0 k x5 x6 x7 0 x5 (x5.length : Int) 0) else (some true)) else (none)) else (none))
def laws_FnAskedBits.l0 : Nat → List (S47) → Int → Int → Int → List (S47) → Int → Int → Option (Bool)
 | 0, _, _, _, _, _, _, _ => none
 | k + 1, x5, x6, x7, x11, x61, x62, x63 => if x63 < x62 then (if 0 ≤ x63 then (if x63 < (x61.length : Int) then (if ((rd_T47 x61 x63).f0).toList = ([105, 110] : List UInt8) then (if 0 ≤ x6 then (if x6 < (x5.length : Int) then (if ((rd_T47 x61 x63).f3) = ((rd_T47 x5 x6).f3) then (laws_FnAskedBits.l0 k x5 x6 x7 (wrap64 (x11 + 1)) x61 x62 (wrap64 (x63 + 1))) else (laws_FnAskedBits.l0 k x5 x6 x7 x11 x61 x62 (wrap64 (x63 + 1)))) else (none)) else (none)) else (laws_FnAskedBits.l0 k x5 x6 x7 x11 x61 x62 (wrap64 (x63 + 1)))) else (none)) else (none)) else (if 0 ≤ x6 then (if x6 < (x5.length : Int) then ((impl_DependsOn.f k x5 ((rd_T47 x5 x6).f3)).bind fun bt645 => (if bt645.2 = true then (if x11 > 1 then (some true) else (some (bt645.1 == (x7 != 0)))) else (some false))) else (none)) else (none))
end
def laws_FnAskedBits.f (k : Nat) (l0 : List Int) (l1 : List Int) : Option (Bool) := (laws_big.f l0 l1).bind fun t631 => (if t631 = true then (some true) else ((spec_DrawAskedBits.f k l0).bind fun bt632 => ((impl_AskedBits.f k bt632.1 bt632.2).bind fun bt636 => ((spec_AskedBits.f k bt632.1 bt632.2).bind fun bt638 => (if (bt636.2 != bt638.2) = true then (laws_FnAskedBits.j0 k bt632.1 bt632.2 bt636.1 bt636.2 true) else (laws_FnAskedBits.j0 k bt632.1 bt632.2 bt636.1 bt636.2 (bt636.1 != bt638.1)))))))
theorem laws_FnAskedBits.mono_l : ∀ k, (∀ y0 y1 y2 y3 y4, LeO (laws_FnAskedBits.j0 k y0 y1 y2 y3 y4) (laws_FnAskedBits.j0 (k + 1) y0 y1 y2 y3 y4)) ∧ (∀ y0 y1 y2 y3, LeO (laws_FnAskedBits.j1 k y0 y1 y2 y3) (laws_FnAskedBits.j1 (k + 1) y0 y1 y2 y3)) ∧ (∀ y0 y1 y2 y3 y4 y5 y6, LeO (laws_FnAskedBits.l0 k y0 y1 y2 y3 y4 y5 y6) (laws_FnAskedBits.l0 (k + 1) y0 y1 y2 y3 y4 y5 y6))
 | 0 => ⟨fun _ _ _ _ _ r h => by simp [laws_FnAskedBits.j0] at h, fun _ _ _ _ r h => by simp [laws_FnAskedBits.j1] at h, fun _ _ _ _ _ _ _ r h => by simp [laws_FnAskedBits.l0] at h⟩
 | k + 1 => by
  obtain ⟨ih0, ih1, ih2⟩ := laws_FnAskedBits.mono_l k
  refine ⟨?_, ?_, ?_⟩
  ·intro y0 y1 y2 y3 y4
   unfold laws_FnAskedBits.j0
   repeat' first
   | (with_reducible exact ih0 _ _ _ _ _)
   | (with_reducible exact ih1 _ _ _ _)
   | (with_reducible exact ih2 _ _ _ _ _ _ _)
   | (with_reducible exact impl_AskedBits.mono _ _ _)
   | (with_reducible exact impl_DependsOn.mono _ _ _)
   | (with_reducible exact spec_AskedBits.mono _ _ _)
   | (with_reducible exact spec_DrawAskedBits.mono _ _)
   | (with_reducible exact LeO.refl _)
   | (with_reducible exact LeO.none _)
   | (with_reducible refine LeO.ite ?_ ?_)
   | (with_reducible refine LeO.bind ?_ (fun _ => ?_))
   | exact ih0 _ _ _ _ _
   | exact ih1 _ _ _ _
   | exact ih2 _ _ _ _ _ _ _
   | exact impl_AskedBits.mono _ _ _
   | exact impl_DependsOn.mono _ _ _
   | exact spec_AskedBits.mono _ _ _
   | exact spec_DrawAskedBits.mono _ _
   | exact LeO.none _
   | refine LeO.ite ?_ ?_
   | refine LeO.bind ?_ (fun _ => ?_)
  ·intro y0 y1 y2 y3
   unfold laws_FnAskedBits.j1
   repeat' first
   | (with_reducible exact ih0 _ _ _ _ _)
   | (with_reducible exact ih1 _ _ _ _)
   | (with_reducible exact ih2 _ _ _ _ _ _ _)
   | (with_reducible exact impl_AskedBits.mono _ _ _)
   | (with_reducible exact impl_DependsOn.mono _ _ _)
   | (with_reducible exact spec_AskedBits.mono _ _ _)
   | (with_reducible exact spec_DrawAskedBits.mono _ _)
   | (with_reducible exact LeO.refl _)
   | (with_reducible exact LeO.none _)
   | (with_reducible refine LeO.ite ?_ ?_)
   | (with_reducible refine LeO.bind ?_ (fun _ => ?_))
   | exact ih0 _ _ _ _ _
   | exact ih1 _ _ _ _
   | exact ih2 _ _ _ _ _ _ _
   | exact impl_AskedBits.mono _ _ _
   | exact impl_DependsOn.mono _ _ _
   | exact spec_AskedBits.mono _ _ _
   | exact spec_DrawAskedBits.mono _ _
   | exact LeO.none _
   | refine LeO.ite ?_ ?_
   | refine LeO.bind ?_ (fun _ => ?_)
  ·intro y0 y1 y2 y3 y4 y5 y6
   unfold laws_FnAskedBits.l0
   repeat' first
   | (with_reducible exact ih0 _ _ _ _ _)
   | (with_reducible exact ih1 _ _ _ _)
   | (with_reducible exact ih2 _ _ _ _ _ _ _)
   | (with_reducible exact impl_AskedBits.mono _ _ _)
   | (with_reducible exact impl_DependsOn.mono _ _ _)
   | (with_reducible exact spec_AskedBits.mono _ _ _)
   | (with_reducible exact spec_DrawAskedBits.mono _ _)
   | (with_reducible exact LeO.refl _)
   | (with_reducible exact LeO.none _)
   | (with_reducible refine LeO.ite ?_ ?_)
   | (with_reducible refine LeO.bind ?_ (fun _ => ?_))
   | exact ih0 _ _ _ _ _
   | exact ih1 _ _ _ _
   | exact ih2 _ _ _ _ _ _ _
   | exact impl_AskedBits.mono _ _ _
   | exact impl_DependsOn.mono _ _ _
   | exact spec_AskedBits.mono _ _ _
   | exact spec_DrawAskedBits.mono _ _
   | exact LeO.none _
   | refine LeO.ite ?_ ?_
   | refine LeO.bind ?_ (fun _ => ?_)
theorem laws_FnAskedBits.mono : ∀ a0 a1 k, LeO (laws_FnAskedBits.f k a0 a1) (laws_FnAskedBits.f (k + 1) a0 a1) := by
 intro a0 a1 k
 obtain ⟨ih0, ih1, ih2⟩ := laws_FnAskedBits.mono_l k
 unfold laws_FnAskedBits.f
 repeat' first
   | (with_reducible exact ih0 _ _ _ _ _)
   | (with_reducible exact ih1 _ _ _ _)
   | (with_reducible exact ih2 _ _ _ _ _ _ _)
   | (with_reducible exact impl_AskedBits.mono _ _ _)
   | (with_reducible exact impl_DependsOn.mono _ _ _)
   | (with_reducible exact spec_AskedBits.mono _ _ _)
   | (with_reducible exact spec_DrawAskedBits.mono _ _)
   | (with_reducible exact LeO.refl _)
   | (with_reducible exact LeO.none _)
   | (with_reducible refine LeO.ite ?_ ?_)
   | (with_reducible refine LeO.bind ?_ (fun _ => ?_))
   | exact ih0 _ _ _ _ _
   | exact ih1 _ _ _ _
   | exact ih2 _ _ _ _ _ _ _
   | exact impl_AskedBits.mono _ _ _
   | exact impl_DependsOn.mono _ _ _
   | exact spec_AskedBits.mono _ _ _
   | exact spec_DrawAskedBits.mono _ _
   | exact LeO.none _
   | refine LeO.ite ?_ ?_
   | refine LeO.bind ?_ (fun _ => ?_)
set_option maxHeartbeats 8000000 in
set_option maxRecDepth 100000 in
theorem laws_FnAskedBits.calls (k : Nat) (A0 : Option Addr) (c0 : Nat) (l0 : List Int) (A1 : Option Addr) (c1 : Nat) (l1 : List Int) (r : Bool) (w : World) (hr0 : Kd.C (Kd.int .u8) w A0 l0.length l0) (hc0 : l0.length ≤ c0) (hr1 : Kd.C (Kd.int .u8) w A1 l1.length l1) (hc1 : l1.length ≤ c1) (h : laws_FnAskedBits.f k l0 l1 = some r) (hr : r = true) :
  Calls Try.prog 5 #[.slice A0 l0.length c0, .slice A1 l1.length c1] w fun e w' => e = .returned (.bool r) ∧ Below w.heap.size w w' := by
 have hu47 := Try.underlying47
 have HR0 := zK hr0
 have HC0 := zK hc0
 clear hr0 hc0
 have HR1 := zK hr1
 have HC1 := zK hc1
 clear hr1 hc1
 have HB := zK (Below.refl w.heap.size w)
 have H : ((laws_big.f l0 l1).bind fun t631 => (if t631 = true then (some true) else ((spec_DrawAskedBits.f k l0).bind fun bt632 => ((impl_AskedBits.f k bt632.1 bt632.2).bind fun bt636 => ((spec_AskedBits.f k bt632.1 bt632.2).bind fun bt638 => (if (bt636.2 != bt638.2) = true then (laws_FnAskedBits.j0 k bt632.1 bt632.2 bt636.1 bt636.2 true) else (laws_FnAskedBits.j0 k bt632.1 bt632.2 bt636.1 bt636.2 (bt636.1 != bt638.1)))))))) = some r := h
 clear h
 replace H := Option.bind_eq_some_iff.mp H
 obtain ⟨t631, A30, H⟩ := H
 replace H : (if t631 = true then (some true) else ((spec_DrawAskedBits.f k l0).bind fun bt632 => ((impl_AskedBits.f k bt632.1 bt632.2).bind fun bt636 => ((spec_AskedBits.f k bt632.1 bt632.2).bind fun bt638 => (if (bt636.2 != bt638.2) = true then (laws_FnAskedBits.j0 k bt632.1 bt632.2 bt636.1 bt636.2 true) else (laws_FnAskedBits.j0 k bt632.1 bt632.2 bt636.1 bt636.2 (bt636.1 != bt638.1))))))) = some r := H
 have A3 := zK A30
 clear A30
 by_cases c4 : t631 = true
 ·subst c4
  have H1 : (some true) = some r := by rw [if_pos rfl] at H; exact H
  clear H
  have H := H1
  clear H1
  obtain rfl := Option.some.inj H
  go_enter Try.func5, Try.ntmps5
  go_wp2_with (first | (go_at_call 8; (with_reducible refine (laws_big.calls _ _ l0 _ _ l1 true _ ?side1 ?side2 ?side3 ?side4 A3.out).mono ?_); (case side1 => repeat (first | exact HR0.out | (with_reducible refine Kd.C_alloc ?_ _) | (with_reducible refine Kd.C_drewN ?_ _) | (with_reducible refine Kd.C_drew ?_))); (case side2 => exact HC0.out); (case side3 => repeat (first | exact HR1.out | (with_reducible refine Kd.C_alloc ?_ _) | (with_reducible refine Kd.C_drewN ?_ _) | (with_reducible refine Kd.C_drew ?_))); (case side4 => exact HC1.out); rintro e w' ⟨rfl, ⟨nd, rfl⟩⟩; (try first | exact ⟨rfl, _, World.drewN_drewN _ _ _⟩ | exact ⟨rfl, _, Eq.trans (World.drewN_drewN _ _ _) (congrArg (World.drewN _) (Nat.add_assoc _ _ _))⟩)))
  repeat (go_quiet (first | (go_at_call 8; (with_reducible refine (laws_big.calls _ _ l0 _ _ l1 true _ ?side1 ?side2 ?side3 ?side4 A3.out).mono ?_); (case side1 => repeat (first | exact HR0.out | (with_reducible refine Kd.C_alloc ?_ _) | (with_reducible refine Kd.C_drewN ?_ _) | (with_reducible refine Kd.C_drew ?_))); (case side2 => exact HC0.out); (case side3 => repeat (first | exact HR1.out | (with_reducible refine Kd.C_alloc ?_ _) | (with_reducible refine Kd.C_drewN ?_ _) | (with_reducible refine Kd.C_drew ?_))); (case side4 => exact HC1.out); rintro e w' ⟨rfl, ⟨nd, rfl⟩⟩; (try first | exact ⟨rfl, _, World.drewN_drewN _ _ _⟩ | exact ⟨rfl, _, Eq.trans (World.drewN_drewN _ _ _) (congrArg (World.drewN _) (Nat.add_assoc _ _ _))⟩))); try go_wp2_with (first | (go_at_call 8; (with_reducible refine (laws_big.calls _ _ l0 _ _ l1 true _ ?side1 ?side2 ?side3 ?side4 A3.out).mono ?_); (case side1 => repeat (first | exact HR0.out | (with_reducible refine Kd.C_alloc ?_ _) | (with_reducible refine Kd.C_drewN ?_ _) | (with_reducible refine Kd.C_drew ?_))); (case side2 => exact HC0.out); (case side3 => repeat (first | exact HR1.out | (with_reducible refine Kd.C_alloc ?_ _) | (with_reducible refine Kd.C_drewN ?_ _) | (with_reducible refine Kd.C_drew ?_))); (case side4 => exact HC1.out); rintro e w' ⟨rfl, ⟨nd, rfl⟩⟩; (try first | exact ⟨rfl, _, World.drewN_drewN _ _ _⟩ | exact ⟨rfl, _, Eq.trans (World.drewN_drewN _ _ _) (congrArg (World.drewN _) (Nat.add_assoc _ _ _))⟩))))
  go_ret
  exact ⟨by first | rfl | (simp [errW_none, errW_some] <;> rfl) | (simp [*, errW_none, errW_some] <;> rfl), by repeat (first | (with_reducible first | exact HB.out | apply zA | apply zB | apply zC) | exact HB.out)⟩
 ·replace c4 := Bool.eq_false_iff.mpr c4
  subst c4
  have H1 : ((spec_DrawAskedBits.f k l0).bind fun bt632 => ((impl_AskedBits.f k bt632.1 bt632.2).bind fun bt636 => ((spec_AskedBits.f k bt632.1 bt632.2).bind fun bt638 => (if (bt636.2 != bt638.2) = true then (laws_FnAskedBits.j0 k bt632.1 bt632.2 bt636.1 bt636.2 true) else (laws_FnAskedBits.j0 k bt632.1 bt632.2 bt636.1 bt636.2 (bt636.1 != bt638.1)))))) = some r := by rw [if_neg (show ¬ (false = true) by decide)] at H; exact H
  clear H
  have H := H1
  clear H1
  replace H := Option.bind_eq_some_iff.mp H
  obtain ⟨⟨t632, t633⟩, A50, H⟩ := H
  replace H : ((impl_AskedBits.f k t632 t633).bind fun bt636 => ((spec_AskedBits.f k t632 t633).bind fun bt638 => (if (bt636.2 != bt638.2) = true then (laws_FnAskedBits.j0 k t632 t633 bt636.1 bt636.2 true) else (laws_FnAskedBits.j0 k t632 t633 bt636.1 bt636.2 (bt636.1 != bt638.1))))) = some r := H
  have A5 := zK A50
  clear A50
  replace H := Option.bind_eq_some_iff.mp H
  obtain ⟨⟨t636, t637⟩, A60, H⟩ := H
  replace H : ((spec_AskedBits.f k t632 t633).bind fun bt638 => (if (t637 != bt638.2) = true then (laws_FnAskedBits.j0 k t632 t633 t636 t637 true) else (laws_FnAskedBits.j0 k t632 t633 t636 t637 (t636 != bt638.1)))) = some r := H
  have A6 := zK A60
  clear A60
  replace H := Option.bind_eq_some_iff.mp H
  obtain ⟨⟨t638, t639⟩, A70, H⟩ := H
  replace H : (if (t637 != t639) = true then (laws_FnAskedBits.j0 k t632 t633 t636 t637 true) else (laws_FnAskedBits.j0 k t632 t633 t636 t637 (t636 != t638))) = some r := H
  have A7 := zK A70
  clear A70
  have HC8 := zK H
  clear H
  go_enter Try.func5, Try.ntmps5
  go_upto_region 6 with (first | (go_at_call 8; (with_reducible refine (laws_big.calls _ _ l0 _ _ l1 false _ ?side1 ?side2 ?side3 ?side4 A3.out).mono ?_); (case side1 => repeat (first | exact HR0.out | (with_reducible refine Kd.C_alloc ?_ _) | (with_reducible refine Kd.C_drewN ?_ _) | (with_reducible refine Kd.C_drew ?_))); (case side2 => exact HC0.out); (case side3 => repeat (first | exact HR1.out | (with_reducible refine Kd.C_alloc ?_ _) | (with_reducible refine Kd.C_drewN ?_ _) | (with_reducible refine Kd.C_drew ?_))); (case side4 => exact HC1.out); rintro e w' ⟨rfl, ⟨nd, rfl⟩⟩; (try first | exact ⟨rfl, _, World.drewN_drewN _ _ _⟩ | exact ⟨rfl, _, Eq.trans (World.drewN_drewN _ _ _) (congrArg (World.drewN _) (Nat.add_assoc _ _ _))⟩)) | (go_at_call 31; (with_reducible refine (spec_DrawAskedBits.calls k _ _ l0 t632 t633 _ ?side1 ?side2 A5.out).mono ?_); (case side1 => repeat (first | exact HR0.out | (with_reducible refine Kd.C_alloc ?_ _) | (with_reducible refine Kd.C_drewN ?_ _) | (with_reducible refine Kd.C_drew ?_))); (case side2 => exact HC0.out); rintro e w9 ⟨v634, rfl, ho0, hb⟩; have n0_ := zK (Kd.R_lower ho0 (zN (by repeat (first | (with_reducible first | exact HB.out | apply zA | apply zB | apply zC) | exact HB.out)))); have n1_ := zK (zL (by repeat (first | (with_reducible first | exact HB.out | apply zA | apply zB | apply zC) | exact HB.out)) hb); clear HB; have HO635 := n0_; have HB := n1_; clear n0_ n1_; (try clear hb); (try clear hb2); (try clear hk); (try clear hi); (try clear ho0); obtain ⟨Ao10, co10, eo10⟩ := Kd.R_slice HO635.out; subst eo10) | (go_at_call 32; (with_reducible refine (impl_AskedBits.calls k _ _ t632 t633 t636 t637 _ ?side1 ?side2 A6.out).mono ?_); (case side1 => repeat (first | exact (Kd.R_reads' HO635.out).2.2 | (with_reducible refine Kd.C_alloc ?_ _) | (with_reducible refine Kd.C_drewN ?_ _) | (with_reducible refine Kd.C_drew ?_))); (case side2 => exact (Kd.R_reads' HO635.out).2.1); rintro e w11 ⟨rfl, hb⟩; have n0_ := zK (Kd.R_below (by (with_reducible repeat (first | apply Kd.R_alloc | apply Kd.R_drewN | apply Kd.R_drew)); exact HO635.out) hb); have n1_ := zK (zL (by repeat (first | (with_reducible first | exact HB.out | apply zA | apply zB | apply zC) | exact HB.out)) hb); clear HO635; clear HB; have HO635 := n0_; have HB := n1_; clear n0_ n1_; (try clear hb); (try clear hb2); (try clear hk); (try clear hi)) | (go_at_call 33; (with_reducible refine (spec_AskedBits.calls k _ _ t632 t633 t638 t639 _ ?side1 ?side2 A7.out).mono ?_); (case side1 => repeat (first | exact (Kd.R_reads' HO635.out).2.2 | (with_reducible refine Kd.C_alloc ?_ _) | (with_reducible refine Kd.C_drewN ?_ _) | (with_reducible refine Kd.C_drew ?_))); (case side2 => exact (Kd.R_reads' HO635.out).2.1); rintro e w12 ⟨rfl, hb⟩; have n0_ := zK (Kd.R_below (by (with_reducible repeat (first | apply Kd.R_alloc | apply Kd.R_drewN | apply Kd.R_drew)); exact HO635.out) hb); have n1_ := zK (zL (by repeat (first | (with_reducible first | exact HB.out | apply zA | apply zB | apply zC) | exact HB.out)) hb); clear HO635; clear HB; have HO635 := n0_; have HB := n1_; clear n0_ n1_; (try clear hb); (try clear hb2); (try clear hk); (try clear hi)))
  repeat (go_quiet (first | (go_at_call 8; (with_reducible refine (laws_big.calls _ _ l0 _ _ l1 false _ ?side1 ?side2 ?side3 ?side4 A3.out).mono ?_); (case side1 => repeat (first | exact HR0.out | (with_reducible refine Kd.C_alloc ?_ _) | (with_reducible refine Kd.C_drewN ?_ _) | (with_reducible refine Kd.C_drew ?_))); (case side2 => exact HC0.out); (case side3 => repeat (first | exact HR1.out | (with_reducible refine Kd.C_alloc ?_ _) | (with_reducible refine Kd.C_drewN ?_ _) | (with_reducible refine Kd.C_drew ?_))); (case side4 => exact HC1.out); rintro e w' ⟨rfl, ⟨nd, rfl⟩⟩; (try first | exact ⟨rfl, _, World.drewN_drewN _ _ _⟩ | exact ⟨rfl, _, Eq.trans (World.drewN_drewN _ _ _) (congrArg (World.drewN _) (Nat.add_assoc _ _ _))⟩)) | (go_at_call 31; (with_reducible refine (spec_DrawAskedBits.calls k _ _ l0 t632 t633 _ ?side1 ?side2 A5.out).mono ?_); (case side1 => repeat (first | exact HR0.out | (with_reducible refine Kd.C_alloc ?_ _) | (with_reducible refine Kd.C_drewN ?_ _) | (with_reducible refine Kd.C_drew ?_))); (case side2 => exact HC0.out); rintro e w9 ⟨v634, rfl, ho0, hb⟩; have n0_ := zK (Kd.R_lower ho0 (zN (by repeat (first | (with_reducible first | exact HB.out | apply zA | apply zB | apply zC) | exact HB.out)))); have n1_ := zK (zL (by repeat (first | (with_reducible first | exact HB.out | apply zA | apply zB | apply zC) | exact HB.out)) hb); clear HB; have HO635 := n0_; have HB := n1_; clear n0_ n1_; (try clear hb); (try clear hb2); (try clear hk); (try clear hi); (try clear ho0); obtain ⟨Ao10, co10, eo10⟩ := Kd.R_slice HO635.out; subst eo10) | (go_at_call 32; (with_reducible refine (impl_AskedBits.calls k _ _ t632 t633 t636 t637 _ ?side1 ?side2 A6.out).mono ?_); (case side1 => repeat (first | exact (Kd.R_reads' HO635.out).2.2 | (with_reducible refine Kd.C_alloc ?_ _) | (with_reducible refine Kd.C_drewN ?_ _) | (with_reducible refine Kd.C_drew ?_))); (case side2 => exact (Kd.R_reads' HO635.out).2.1); rintro e w11 ⟨rfl, hb⟩; have n0_ := zK (Kd.R_below (by (with_reducible repeat (first | apply Kd.R_alloc | apply Kd.R_drewN | apply Kd.R_drew)); exact HO635.out) hb); have n1_ := zK (zL (by repeat (first | (with_reducible first | exact HB.out | apply zA | apply zB | apply zC) | exact HB.out)) hb); clear HO635; clear HB; have HO635 := n0_; have HB := n1_; clear n0_ n1_; (try clear hb); (try clear hb2); (try clear hk); (try clear hi)) | (go_at_call 33; (with_reducible refine (spec_AskedBits.calls k _ _ t632 t633 t638 t639 _ ?side1 ?side2 A7.out).mono ?_); (case side1 => repeat (first | exact (Kd.R_reads' HO635.out).2.2 | (with_reducible refine Kd.C_alloc ?_ _) | (with_reducible refine Kd.C_drewN ?_ _) | (with_reducible refine Kd.C_drew ?_))); (case side2 => exact (Kd.R_reads' HO635.out).2.1); rintro e w12 ⟨rfl, hb⟩; have n0_ := zK (Kd.R_below (by (with_reducible repeat (first | apply Kd.R_alloc | apply Kd.R_drewN | apply Kd.R_drew)); exact HO635.out) hb); have n1_ := zK (zL (by repeat (first | (with_reducible first | exact HB.out | apply zA | apply zB | apply zC) | exact HB.out)) hb); clear HO635; clear HB; have HO635 := n0_; have HB := n1_; clear n0_ n1_; (try clear hb); (try clear hb2); (try clear hk); (try clear hi))); go_upto_region 6 with (first | (go_at_call 8; (with_reducible refine (laws_big.calls _ _ l0 _ _ l1 false _ ?side1 ?side2 ?side3 ?side4 A3.out).mono ?_); (case side1 => repeat (first | exact HR0.out | (with_reducible refine Kd.C_alloc ?_ _) | (with_reducible refine Kd.C_drewN ?_ _) | (with_reducible refine Kd.C_drew ?_))); (case side2 => exact HC0.out); (case side3 => repeat (first | exact HR1.out | (with_reducible refine Kd.C_alloc ?_ _) | (with_reducible refine Kd.C_drewN ?_ _) | (with_reducible refine Kd.C_drew ?_))); (case side4 => exact HC1.out); rintro e w' ⟨rfl, ⟨nd, rfl⟩⟩; (try first | exact ⟨rfl, _, World.drewN_drewN _ _ _⟩ | exact ⟨rfl, _, Eq.trans (World.drewN_drewN _ _ _) (congrArg (World.drewN _) (Nat.add_assoc _ _ _))⟩)) | (go_at_call 31; (with_reducible refine (spec_DrawAskedBits.calls k _ _ l0 t632 t633 _ ?side1 ?side2 A5.out).mono ?_); (case side1 => repeat (first | exact HR0.out | (with_reducible refine Kd.C_alloc ?_ _) | (with_reducible refine Kd.C_drewN ?_ _) | (with_reducible refine Kd.C_drew ?_))); (case side2 => exact HC0.out); rintro e w9 ⟨v634, rfl, ho0, hb⟩; have n0_ := zK (Kd.R_lower ho0 (zN (by repeat (first | (with_reducible first | exact HB.out | apply zA | apply zB | apply zC) | exact HB.out)))); have n1_ := zK (zL (by repeat (first | (with_reducible first | exact HB.out | apply zA | apply zB | apply zC) | exact HB.out)) hb); clear HB; have HO635 := n0_; have HB := n1_; clear n0_ n1_; (try clear hb); (try clear hb2); (try clear hk); (try clear hi); (try clear ho0); obtain ⟨Ao10, co10, eo10⟩ := Kd.R_slice HO635.out; subst eo10) | (go_at_call 32; (with_reducible refine (impl_AskedBits.calls k _ _ t632 t633 t636 t637 _ ?side1 ?side2 A6.out).mono ?_); (case side1 => repeat (first | exact (Kd.R_reads' HO635.out).2.2 | (with_reducible refine Kd.C_alloc ?_ _) | (with_reducible refine Kd.C_drewN ?_ _) | (with_reducible refine Kd.C_drew ?_))); (case side2 => exact (Kd.R_reads' HO635.out).2.1); rintro e w11 ⟨rfl, hb⟩; have n0_ := zK (Kd.R_below (by (with_reducible repeat (first | apply Kd.R_alloc | apply Kd.R_drewN | apply Kd.R_drew)); exact HO635.out) hb); have n1_ := zK (zL (by repeat (first | (with_reducible first | exact HB.out | apply zA | apply zB | apply zC) | exact HB.out)) hb); clear HO635; clear HB; have HO635 := n0_; have HB := n1_; clear n0_ n1_; (try clear hb); (try clear hb2); (try clear hk); (try clear hi)) | (go_at_call 33; (with_reducible refine (spec_AskedBits.calls k _ _ t632 t633 t638 t639 _ ?side1 ?side2 A7.out).mono ?_); (case side1 => repeat (first | exact (Kd.R_reads' HO635.out).2.2 | (with_reducible refine Kd.C_alloc ?_ _) | (with_reducible refine Kd.C_drewN ?_ _) | (with_reducible refine Kd.C_drew ?_))); (case side2 => exact (Kd.R_reads' HO635.out).2.1); rintro e w12 ⟨rfl, hb⟩; have n0_ := zK (Kd.R_below (by (with_reducible repeat (first | apply Kd.R_alloc | apply Kd.R_drewN | apply Kd.R_drew)); exact HO635.out) hb); have n1_ := zK (zL (by repeat (first | (with_reducible first | exact HB.out | apply zA | apply zB | apply zC) | exact HB.out)) hb); clear HO635; clear HB; have HO635 := n0_; have HB := n1_; clear n0_ n1_; (try clear hb); (try clear hb2); (try clear hk); (try clear hi))))
  (try simp only [Act.put, z1, z2, z3])
  go_cut [43] (fun v43 wc => ∃ (kq : Nat) (x43_7 : Bool), v43 = .bool x43_7 ∧ Aside0 (laws_FnAskedBits.j0 kq t632 t633 t636 t637 x43_7 = some r) ∧ Aside0 (kq ≤ k) ∧ Aside0 (Kd.R k47 47 wc w.heap.size (fun _ => True) (.slice Ao10 t632.length co10) t632) ∧ Aside0 (Below w.heap.size w wc))
  case first =>
   have H := HC8.out
   clear HC8
   by_cases c13 : (t637 != t639) = true
   ·rw [if_pos c13] at H
    have c13b0 : (t637 != t639) = true := c13
    (try (have c13b1 : decide (t637 = t639) = false := by simpa using c13))
    (try (have c13b2 : (t637 == t639) = false := by simpa using c13))
    (try (have c13b3 : ¬ (t637 = t639) := by simpa using c13))
    clear c13
    (first | rw [c13b0] | (simp only [i64_w, i32_w]; rw [c13b0]) | skip)
    have H' := zK H
    clear H
    go_wp2
    repeat (go_quiet (fail); try go_wp2)
    go_meet
    case rel => exact ⟨_, (true), (by first | rfl | (simp; done) | (simp [*]; done)), H', ⟨by first | omega | exact Nat.le_refl _⟩, ⟨by (with_reducible repeat (first | apply Kd.R_alloc | apply Kd.R_drewN | apply Kd.R_drew)); exact HO635.out⟩, ⟨by repeat (first | (with_reducible first | exact HB.out | apply zA | apply zB | apply zC) | exact HB.out)⟩⟩
   ·rw [if_neg c13] at H
    have c13b0 : (t637 != t639) = false := by simpa using c13
    (try (have c13b1 : decide (t637 = t639) = true := by simpa using c13))
    (try (have c13b2 : (t637 == t639) = true := by simpa using c13))
    clear c13
    (first | rw [c13b0] | (simp only [i64_w, i32_w]; rw [c13b0]) | skip)
    have H' := zK H
    clear H
    go_wp2
    repeat (go_quiet (fail); try go_wp2)
    go_meet
    case rel => exact ⟨_, ((t636 != t638)), (by first | rfl | (simp; done) | (simp [*]; done)), H', ⟨by first | omega | exact Nat.le_refl _⟩, ⟨by (with_reducible repeat (first | apply Kd.R_alloc | apply Kd.R_drewN | apply Kd.R_drew)); exact HO635.out⟩, ⟨by repeat (first | (with_reducible first | exact HB.out | apply zA | apply zB | apply zC) | exact HB.out)⟩⟩
  case rest =>
   clear HC8
   try clear c1
   try clear p2
   try clear c4
   try clear c5
   try clear c13
   try clear c13b0
   try clear c13b1
   try clear c13b2
   obtain ⟨kq, x43_7, rfl, HA, HJ7, HO_5, HB⟩ := hcut
   cases kq with
   | zero => exact absurd HA.out (by simp [laws_FnAskedBits.j0])
   | succ kj7 =>
    have H := HA.out
    clear HA
    simp only [laws_FnAskedBits.j0] at H
    by_cases c14 : x43_7 = true
    ·subst c14
     have H1 : (some false) = some r := by rw [if_pos rfl] at H; exact H
     clear H
     have H := H1
     clear H1
     exact absurd ((Option.some.inj H).trans hr) (by decide)
    ·replace c14 := Bool.eq_false_iff.mpr c14
     subst c14
     have H1 : (if t637 = true then (if t633 = (wrap64 ((t632.length : Int) - 1)) then (laws_FnAskedBits.j1 kj7 t632 t633 t636 (t636 != 63)) else (laws_FnAskedBits.j1 kj7 t632 t633 t636 false)) else (some true)) = some r := by rw [if_neg (show ¬ (false = true) by decide)] at H; exact H
     clear H
     have H := H1
     clear H1
     by_cases c15 : t637 = true
     ·subst c15
      have H1 : (if t633 = (wrap64 ((t632.length : Int) - 1)) then (laws_FnAskedBits.j1 kj7 t632 t633 t636 (t636 != 63)) else (laws_FnAskedBits.j1 kj7 t632 t633 t636 false)) = some r := by rw [if_pos rfl] at H; exact H
      clear H
      have H := H1
      clear H1
      have HC16 := zK H
      clear H
      go_upto_region 10 with (fail)
      repeat (go_quiet (fail); go_upto_region 10 with (fail))
      go_cut [54] (fun v54 wc => ∃ (kq : Nat) (x54_15 : Bool), v54 = .bool x54_15 ∧ Aside0 (laws_FnAskedBits.j1 kq t632 t633 t636 x54_15 = some r) ∧ Aside0 (kq ≤ kj7) ∧ Aside0 (Kd.R k47 47 wc w.heap.size (fun _ => True) (.slice Ao10 t632.length co10) t632) ∧ Aside0 (Below w.heap.size w wc))
      case first =>
       have H := HC16.out
       clear HC16
       by_cases c17 : t633 = (wrap64 ((t632.length : Int) - 1))
       ·rw [if_pos c17] at H
        have c17b0 : (t633 == (wrap64 ((t632.length : Int) - 1))) = true := beq_iff_eq.mpr c17
        have c17b1 : (t633 != (wrap64 ((t632.length : Int) - 1))) = false := bne_eq_false_iff_eq.mpr c17
        clear c17
        (first | rw [c17b0] | (simp only [i64_w, i32_w]; rw [c17b0]) | skip)
        have H' := zK H
        clear H
        go_wp2
        repeat (go_quiet (fail); try go_wp2)
        go_meet
        case rel => exact ⟨_, ((t636 != 63)), (by first | rfl | (simp; done) | (simp [*]; done)), H', ⟨by have := HJ7.out; first | omega | exact Nat.le_refl _⟩, ⟨by (with_reducible repeat (first | apply Kd.R_alloc | apply Kd.R_drewN | apply Kd.R_drew)); exact HO_5.out⟩, ⟨by repeat (first | (with_reducible first | exact HB.out | apply zA | apply zB | apply zC) | exact HB.out)⟩⟩
       ·rw [if_neg c17] at H
        have c17b0 : (t633 == (wrap64 ((t632.length : Int) - 1))) = false := beq_eq_false_iff_ne.mpr c17
        have c17b1 : (t633 != (wrap64 ((t632.length : Int) - 1))) = true := bne_iff_ne.mpr c17
        (first | rw [c17b0] | (simp only [i64_w, i32_w]; rw [c17b0]) | skip)
        have H' := zK H
        clear H
        go_wp2
        repeat (go_quiet (fail); try go_wp2)
        go_meet
        case rel => exact ⟨_, (false), (by first | rfl | (simp; done) | (simp [*]; done)), H', ⟨by have := HJ7.out; first | omega | exact Nat.le_refl _⟩, ⟨by (with_reducible repeat (first | apply Kd.R_alloc | apply Kd.R_drewN | apply Kd.R_drew)); exact HO_5.out⟩, ⟨by repeat (first | (with_reducible first | exact HB.out | apply zA | apply zB | apply zC) | exact HB.out)⟩⟩
      case rest =>
       clear HC16
       try clear c1
       try clear p2
       try clear c4
       try clear c5
       try clear p6
       try clear c13
       try clear c13b0
       try clear c13b1
       try clear c13b2
       try clear c14
       try clear c15
       try clear c17
       try clear c17b0
       try clear c17b1
       try clear p2
       obtain ⟨kq, x54_15, rfl, HA, HJ15, HO_5, HB⟩ := hcut
       cases kq with
       | zero => exact absurd HA.out (by simp [laws_FnAskedBits.j1])
       | succ kj15 =>
        have H := HA.out
        clear HA
        simp only [laws_FnAskedBits.j1] at H
        by_cases c18 : x54_15 = true
        ·subst c18
         have H1 : (some false) = some r := by rw [if_pos rfl] at H; exact H
         clear H
         have H := H1
         clear H1
         exact absurd ((Option.some.inj H).trans hr) (by decide)
        ·replace c18 := Bool.eq_false_iff.mpr c18
         subst c18
         have H1 : (if 0 ≤ t633 then (if t633 < (t632.length : Int) then (if ((rd_T47 t632 t633).f0).toList = ([105, 110] : List UInt8) then (laws_FnAskedBits.l0 kj15 t632 t633 t636 0 t632 (t632.length : Int) 0) else (some true)) else (none)) else (none)) = some r := by rw [if_neg (show ¬ (false = true) by decide)] at H; exact H
         clear H
         have H := H1
         clear H1
         by_cases c19 : 0 ≤ t633
         ·rw [if_pos c19] at H
          have c19b0 : decide (0 ≤ t633) = true := decide_eq_true c19
          clear c19
          by_cases c20 : t633 < (t632.length : Int)
          ·rw [if_pos c20] at H
           have c20b0 : decide (t633 < (t632.length : Int)) = true := decide_eq_true c20
           clear c20
           by_cases c21 : ((rd_T47 t632 t633).f0).toList = ([105, 110] : List UInt8)
           ·rw [if_pos c21] at H
            have c21b0 : (((rd_T47 t632 t633).f0).toList == ([105, 110] : List UInt8)) = true := beq_iff_eq.mpr c21
            have c21b1 : (((rd_T47 t632 t633).f0).toList != ([105, 110] : List UInt8)) = false := bne_eq_false_iff_eq.mpr c21
            clear c21
            have H' := zK H
            clear H
            have p640 : 0 ≤ (t633 : Int) := zo
            have q640 : t633 < (t632.length : Int) := zo
            obtain ⟨ad640, e640, hx640_0, hx640_1, hx640_2, hx640_3⟩ := at_T47 (Kd.R_reads' HO_5.out).2.2 t633 p640 q640
            cases e640
            replace p640 := eq_true p640
            replace q640 := eq_true q640
            go_wp2
            repeat (go_quiet (fail); try go_wp2)
            go_loopg [11, 63] kj15 (fun kq v11 v63 w' => ∃ (x11_3 : Int) (x63_3 : Int), v11 = .int .i64 x11_3 ∧ v63 = .int .i64 x63_3 ∧ Aside0 (laws_FnAskedBits.l0 kq t632 t633 t636 x11_3 t632 (t632.length : Int) x63_3 = some r) ∧ Aside0 (kq ≤ kj15) ∧ Aside0 (Kd.R k47 47 w' w.heap.size (fun _ => True) (.slice (some ad640) t632.length co10) t632) ∧ Aside0 (Kd.R k47 47 w' w.heap.size (fun _ => True) (.slice (some ad640) t632.length co10) t632) ∧ Aside0 (Below w.heap.size w w'))
            case atStart => exact ⟨(0), (0), (by first | rfl | (simp; done) | (simp [*]; done)), (by first | rfl | (simp; done) | (simp [*]; done)), H', ⟨Nat.le_refl _⟩, ⟨by (with_reducible repeat (first | apply Kd.R_alloc | apply Kd.R_drewN | apply Kd.R_drew)); exact HO_5.out⟩, ⟨by (with_reducible repeat (first | apply Kd.R_alloc | apply Kd.R_drewN | apply Kd.R_drew)); exact HO_5.out⟩, ⟨by repeat (first | (with_reducible first | exact HB.out | apply zA | apply zB | apply zC) | exact HB.out)⟩⟩
            case round =>
             clear H'
             try clear c1
             try clear c2
             try clear p2
             try clear c4
             try clear c5
             try clear p6
             try clear q6
             try clear hx6
             try clear c13
             try clear c13b0
             try clear c13b1
             try clear c13b2
             try clear c14
             try clear c15
             try clear c17
             try clear c17b0
             try clear c17b1
             try clear c18
             try clear c19
             try clear c19b0
             try clear c20
             try clear c20b0
             try clear c21
             try clear c21b0
             try clear c21b1
             try clear hx640_0
             try clear hx640_1
             try clear hx640_2
             try clear hx640_3
             try clear p2
             try clear p6
             try clear p640
             try clear q640
             obtain ⟨x11_3, x63_3, rfl, rfl, HA, HK3, HO_5, HO_61, HB⟩ := hrel
             cases gk with
             | zero => exact absurd HA.out (by simp [laws_FnAskedBits.l0])
             | succ k3 =>
              have H := HA.out
              clear HA
              simp only [laws_FnAskedBits.l0] at H
              by_cases c22 : x63_3 < (t632.length : Int)
              ·rw [if_pos c22] at H
               have c22b0 : decide (x63_3 < (t632.length : Int)) = true := decide_eq_true c22
               clear c22
               by_cases c23 : 0 ≤ x63_3
               ·rw [if_pos c23] at H
                have c23b0 : decide (0 ≤ x63_3) = true := decide_eq_true c23
                clear c23
                by_cases c24 : x63_3 < (t632.length : Int)
                ·rw [if_pos c24] at H
                 have c24b0 : decide (x63_3 < (t632.length : Int)) = true := decide_eq_true c24
                 clear c24
                 by_cases c25 : ((rd_T47 t632 x63_3).f0).toList = ([105, 110] : List UInt8)
                 ·rw [if_pos c25] at H
                  have c25b0 : (((rd_T47 t632 x63_3).f0).toList == ([105, 110] : List UInt8)) = true := beq_iff_eq.mpr c25
                  have c25b1 : (((rd_T47 t632 x63_3).f0).toList != ([105, 110] : List UInt8)) = false := bne_eq_false_iff_eq.mpr c25
                  clear c25
                  by_cases c26 : 0 ≤ t633
                  ·rw [if_pos c26] at H
                   have c26b0 : decide (0 ≤ t633) = true := decide_eq_true c26
                   clear c26
                   by_cases c27 : t633 < (t632.length : Int)
                   ·rw [if_pos c27] at H
                    have c27b0 : decide (t633 < (t632.length : Int)) = true := decide_eq_true c27
                    clear c27
                    by_cases c28 : ((rd_T47 t632 x63_3).f3) = ((rd_T47 t632 t633).f3)
                    ·rw [if_pos c28] at H
                     have c28b0 : (((rd_T47 t632 x63_3).f3) == ((rd_T47 t632 t633).f3)) = true := beq_iff_eq.mpr c28
                     have c28b1 : (((rd_T47 t632 x63_3).f3) != ((rd_T47 t632 t633).f3)) = false := bne_eq_false_iff_eq.mpr c28
                     clear c28
                     have H' := zK H
                     clear H
                     have p641 : 0 ≤ (x63_3 : Int) := zo
                     have q641 : x63_3 < (t632.length : Int) := zo
                     obtain ⟨ad641, e641, hx641_0, hx641_1, hx641_2, hx641_3⟩ := at_T47 (Kd.R_reads' HO_61.out).2.2 x63_3 p641 q641
                     obtain rfl : ad640 = ad641 := (by injection e641)
                     replace p641 := eq_true p641
                     replace q641 := eq_true q641
                     go_wp2_with (first | ((with_reducible refine gate_dst (N := 13) rfl ?_); refine box_event ?hg (N := 13) ?hd (cs := #[.string (⟨#[]⟩ : ByteArray), .int .i64 0, .int .i64 0, .int .i64 0]) (t := 47) ?hr ?_; (case hd => rfl); (case hg => rfl); (case hr => first | (go_simp; done) | (go_simp; rfl)); intro gb642 hg w29 hbox hb; have n0_ := zK (Kd.R_below (Kd.R_elderB (by (with_reducible repeat (first | apply Kd.R_alloc | apply Kd.R_drewN | apply Kd.R_drew)); exact HO_5.out) gb642 (Nat.le_of_eq hg.symm)) hb); have n1_ := zK (Kd.R_below (Kd.R_elderB (by (with_reducible repeat (first | apply Kd.R_alloc | apply Kd.R_drewN | apply Kd.R_drew)); exact HO_61.out) gb642 (Nat.le_of_eq hg.symm)) hb); have n2_ := zK (zL (by repeat (first | (with_reducible first | exact HB.out | apply zA | apply zB | apply zC) | exact HB.out)) hb); have n3_ := zK (hbox); have n4_ := zK ((by rw [hg]; exact (zN (by repeat (first | (with_reducible first | exact HB.out | apply zA | apply zB | apply zC) | exact HB.out))) : w.heap.size ≤ gb642)); have n5_ := zK ((by rw [hg]; exact (zN (by repeat (first | (with_reducible first | exact HB.out | apply zA | apply zB | apply zC) | exact HB.out))) : w.heap.size ≤ gb642)); clear HO_5; clear HO_61; clear HB; have HO_5 := n0_; have HO_61 := n1_; have HB := n2_; have BK642 := n3_; have GW642 := n4_; have GE642 := n5_; clear n0_ n1_ n2_ n3_ n4_ n5_; clear hb hbox hg; have hcz30_0 : w29.cell? ⟨gb642, 0, none⟩ = some (.string (⟨#[]⟩ : ByteArray)) := (zI BK642.out 0).trans rfl; have hcz30_1 : w29.cell? ⟨gb642, 1, none⟩ = some (.int .i64 0) := (zI BK642.out 1).trans rfl; have hcz30_2 : w29.cell? ⟨gb642, 2, none⟩ = some (.int .i64 0) := (zI BK642.out 2).trans rfl; have hcz30_3 : w29.cell? ⟨gb642, 3, none⟩ = some (.int .i64 0) := (zI BK642.out 3).trans rfl; have hfz30_0 := zH BK642.out 0; have hfz30_1 := zH BK642.out 1; have hfz30_2 := zH BK642.out 2; have hfz30_3 := zH BK642.out 3; have p643 : 0 ≤ (t633 : Int) := zo; have q643 : t633 < (t632.length : Int) := zo; obtain ⟨ad643, e643, hx643_0, hx643_1, hx643_2, hx643_3⟩ := at_T47 (Kd.R_reads' HO_5.out).2.2 t633 p643 q643; obtain rfl : ad640 = ad643 := (by injection e643); have hn643_0 : ad640.block ≠ gb642 := Kd.own_blk (by first | exact Kd.R_ne HO_5.out BK642.out (by decide) | (intro e_; exact (HO_5.out.1 _ e_.symm).2 rfl)); have hn643_1 : ad640.block ≠ gb642 := Kd.own_blk (by first | exact Kd.R_ne HO_5.out BK642.out (by decide) | (intro e_; exact (HO_5.out.1 _ e_.symm).2 rfl)); have hn643_2 : ad640.block ≠ gb642 := Kd.own_blk (by first | exact Kd.R_ne HO_5.out BK642.out (by decide) | (intro e_; exact (HO_5.out.1 _ e_.symm).2 rfl)); have hn643_3 : ad640.block ≠ gb642 := Kd.own_blk (by first | exact Kd.R_ne HO_5.out BK642.out (by decide) | (intro e_; exact (HO_5.out.1 _ e_.symm).2 rfl)); replace hx643_0 := (cell_far (p := ⟨gb642, 0, none⟩) (by first | (rw [add_block]; exact hn643_0) | (show (Addr.add _ _).block ≠ _; rw [add_block]; exact hn643_0) | exact hn643_0) (.string ((rd_T47 t632 x63_3).f0))).trans hx643_0; replace hx643_1 := (cell_far (p := ⟨gb642, 0, none⟩) (by first | (rw [add_block]; exact hn643_0) | (show (Addr.add _ _).block ≠ _; rw [add_block]; exact hn643_0) | exact hn643_0) (.string ((rd_T47 t632 x63_3).f0))).trans hx643_1; replace hx643_2 := (cell_far (p := ⟨gb642, 0, none⟩) (by first | (rw [add_block]; exact hn643_0) | (show (Addr.add _ _).block ≠ _; rw [add_block]; exact hn643_0) | exact hn643_0) (.string ((rd_T47 t632 x63_3).f0))).trans hx643_2; replace hx643_3 := (cell_far (p := ⟨gb642, 0, none⟩) (by first | (rw [add_block]; exact hn643_0) | (show (Addr.add _ _).block ≠ _; rw [add_block]; exact hn643_0) | exact hn643_0) (.string ((rd_T47 t632 x63_3).f0))).trans hx643_3; replace hx643_0 := (cell_far (p := ⟨gb642, 1, none⟩) (by first | (rw [add_block]; exact hn643_1) | (show (Addr.add _ _).block ≠ _; rw [add_block]; exact hn643_1) | exact hn643_1) (.int .i64 ((rd_T47 t632 x63_3).f1))).trans hx643_0; replace hx643_1 := (cell_far (p := ⟨gb642, 1, none⟩) (by first | (rw [add_block]; exact hn643_1) | (show (Addr.add _ _).block ≠ _; rw [add_block]; exact hn643_1) | exact hn643_1) (.int .i64 ((rd_T47 t632 x63_3).f1))).trans hx643_1; replace hx643_2 := (cell_far (p := ⟨gb642, 1, none⟩) (by first | (rw [add_block]; exact hn643_1) | (show (Addr.add _ _).block ≠ _; rw [add_block]; exact hn643_1) | exact hn643_1) (.int .i64 ((rd_T47 t632 x63_3).f1))).trans hx643_2; replace hx643_3 := (cell_far (p := ⟨gb642, 1, none⟩) (by first | (rw [add_block]; exact hn643_1) | (show (Addr.add _ _).block ≠ _; rw [add_block]; exact hn643_1) | exact hn643_1) (.int .i64 ((rd_T47 t632 x63_3).f1))).trans hx643_3; replace hx643_0 := (cell_far (p := ⟨gb642, 2, none⟩) (by first | (rw [add_block]; exact hn643_2) | (show (Addr.add _ _).block ≠ _; rw [add_block]; exact hn643_2) | exact hn643_2) (.int .i64 ((rd_T47 t632 x63_3).f2))).trans hx643_0; replace hx643_1 := (cell_far (p := ⟨gb642, 2, none⟩) (by first | (rw [add_block]; exact hn643_2) | (show (Addr.add _ _).block ≠ _; rw [add_block]; exact hn643_2) | exact hn643_2) (.int .i64 ((rd_T47 t632 x63_3).f2))).trans hx643_1; replace hx643_2 := (cell_far (p := ⟨gb642, 2, none⟩) (by first | (rw [add_block]; exact hn643_2) | (show (Addr.add _ _).block ≠ _; rw [add_block]; exact hn643_2) | exact hn643_2) (.int .i64 ((rd_T47 t632 x63_3).f2))).trans hx643_2; replace hx643_3 := (cell_far (p := ⟨gb642, 2, none⟩) (by first | (rw [add_block]; exact hn643_2) | (show (Addr.add _ _).block ≠ _; rw [add_block]; exact hn643_2) | exact hn643_2) (.int .i64 ((rd_T47 t632 x63_3).f2))).trans hx643_3; replace hx643_0 := (cell_far (p := ⟨gb642, 3, none⟩) (by first | (rw [add_block]; exact hn643_3) | (show (Addr.add _ _).block ≠ _; rw [add_block]; exact hn643_3) | exact hn643_3) (.int .i64 ((rd_T47 t632 x63_3).f3))).trans hx643_0; replace hx643_1 := (cell_far (p := ⟨gb642, 3, none⟩) (by first | (rw [add_block]; exact hn643_3) | (show (Addr.add _ _).block ≠ _; rw [add_block]; exact hn643_3) | exact hn643_3) (.int .i64 ((rd_T47 t632 x63_3).f3))).trans hx643_1; replace hx643_2 := (cell_far (p := ⟨gb642, 3, none⟩) (by first | (rw [add_block]; exact hn643_3) | (show (Addr.add _ _).block ≠ _; rw [add_block]; exact hn643_3) | exact hn643_3) (.int .i64 ((rd_T47 t632 x63_3).f3))).trans hx643_2; replace hx643_3 := (cell_far (p := ⟨gb642, 3, none⟩) (by first | (rw [add_block]; exact hn643_3) | (show (Addr.add _ _).block ≠ _; rw [add_block]; exact hn643_3) | exact hn643_3) (.int .i64 ((rd_T47 t632 x63_3).f3))).trans hx643_3; (try have hy643_0 := fun (n_ : Nat) => (show ((((((w29.drewN n_).setCell ⟨gb642, 0, none⟩ (.string ((rd_T47 t632 x63_3).f0))).setCell ⟨gb642, 1, none⟩ (.int .i64 ((rd_T47 t632 x63_3).f1))).setCell ⟨gb642, 2, none⟩ (.int .i64 ((rd_T47 t632 x63_3).f2))).setCell ⟨gb642, 3, none⟩ (.int .i64 ((rd_T47 t632 x63_3).f3)))).cell? _ = some _ from hx643_0)); (try have hy643_1 := fun (n_ : Nat) => (show ((((((w29.drewN n_).setCell ⟨gb642, 0, none⟩ (.string ((rd_T47 t632 x63_3).f0))).setCell ⟨gb642, 1, none⟩ (.int .i64 ((rd_T47 t632 x63_3).f1))).setCell ⟨gb642, 2, none⟩ (.int .i64 ((rd_T47 t632 x63_3).f2))).setCell ⟨gb642, 3, none⟩ (.int .i64 ((rd_T47 t632 x63_3).f3)))).cell? _ = some _ from hx643_1)); (try have hy643_2 := fun (n_ : Nat) => (show ((((((w29.drewN n_).setCell ⟨gb642, 0, none⟩ (.string ((rd_T47 t632 x63_3).f0))).setCell ⟨gb642, 1, none⟩ (.int .i64 ((rd_T47 t632 x63_3).f1))).setCell ⟨gb642, 2, none⟩ (.int .i64 ((rd_T47 t632 x63_3).f2))).setCell ⟨gb642, 3, none⟩ (.int .i64 ((rd_T47 t632 x63_3).f3)))).cell? _ = some _ from hx643_2)); (try have hy643_3 := fun (n_ : Nat) => (show ((((((w29.drewN n_).setCell ⟨gb642, 0, none⟩ (.string ((rd_T47 t632 x63_3).f0))).setCell ⟨gb642, 1, none⟩ (.int .i64 ((rd_T47 t632 x63_3).f1))).setCell ⟨gb642, 2, none⟩ (.int .i64 ((rd_T47 t632 x63_3).f2))).setCell ⟨gb642, 3, none⟩ (.int .i64 ((rd_T47 t632 x63_3).f3)))).cell? _ = some _ from hx643_3)); clear hn643_0; clear hn643_1; clear hn643_2; clear hn643_3; replace p643 := eq_true p643; replace q643 := eq_true q643))
                     repeat (go_quiet (first | ((with_reducible refine gate_dst (N := 13) rfl ?_); refine box_event ?hg (N := 13) ?hd (cs := #[.string (⟨#[]⟩ : ByteArray), .int .i64 0, .int .i64 0, .int .i64 0]) (t := 47) ?hr ?_; (case hd => rfl); (case hg => rfl); (case hr => first | (go_simp; done) | (go_simp; rfl)); intro gb642 hg w29 hbox hb; have n0_ := zK (Kd.R_below (Kd.R_elderB (by (with_reducible repeat (first | apply Kd.R_alloc | apply Kd.R_drewN | apply Kd.R_drew)); exact HO_5.out) gb642 (Nat.le_of_eq hg.symm)) hb); have n1_ := zK (Kd.R_below (Kd.R_elderB (by (with_reducible repeat (first | apply Kd.R_alloc | apply Kd.R_drewN | apply Kd.R_drew)); exact HO_61.out) gb642 (Nat.le_of_eq hg.symm)) hb); have n2_ := zK (zL (by repeat (first | (with_reducible first | exact HB.out | apply zA | apply zB | apply zC) | exact HB.out)) hb); have n3_ := zK (hbox); have n4_ := zK ((by rw [hg]; exact (zN (by repeat (first | (with_reducible first | exact HB.out | apply zA | apply zB | apply zC) | exact HB.out))) : w.heap.size ≤ gb642)); have n5_ := zK ((by rw [hg]; exact (zN (by repeat (first | (with_reducible first | exact HB.out | apply zA | apply zB | apply zC) | exact HB.out))) : w.heap.size ≤ gb642)); clear HO_5; clear HO_61; clear HB; have HO_5 := n0_; have HO_61 := n1_; have HB := n2_; have BK642 := n3_; have GW642 := n4_; have GE642 := n5_; clear n0_ n1_ n2_ n3_ n4_ n5_; clear hb hbox hg; have hcz30_0 : w29.cell? ⟨gb642, 0, none⟩ = some (.string (⟨#[]⟩ : ByteArray)) := (zI BK642.out 0).trans rfl; have hcz30_1 : w29.cell? ⟨gb642, 1, none⟩ = some (.int .i64 0) := (zI BK642.out 1).trans rfl; have hcz30_2 : w29.cell? ⟨gb642, 2, none⟩ = some (.int .i64 0) := (zI BK642.out 2).trans rfl; have hcz30_3 : w29.cell? ⟨gb642, 3, none⟩ = some (.int .i64 0) := (zI BK642.out 3).trans rfl; have hfz30_0 := zH BK642.out 0; have hfz30_1 := zH BK642.out 1; have hfz30_2 := zH BK642.out 2; have hfz30_3 := zH BK642.out 3; have p643 : 0 ≤ (t633 : Int) := zo; have q643 : t633 < (t632.length : Int) := zo; obtain ⟨ad643, e643, hx643_0, hx643_1, hx643_2, hx643_3⟩ := at_T47 (Kd.R_reads' HO_5.out).2.2 t633 p643 q643; obtain rfl : ad640 = ad643 := (by injection e643); have hn643_0 : ad640.block ≠ gb642 := Kd.own_blk (by first | exact Kd.R_ne HO_5.out BK642.out (by decide) | (intro e_; exact (HO_5.out.1 _ e_.symm).2 rfl)); have hn643_1 : ad640.block ≠ gb642 := Kd.own_blk (by first | exact Kd.R_ne HO_5.out BK642.out (by decide) | (intro e_; exact (HO_5.out.1 _ e_.symm).2 rfl)); have hn643_2 : ad640.block ≠ gb642 := Kd.own_blk (by first | exact Kd.R_ne HO_5.out BK642.out (by decide) | (intro e_; exact (HO_5.out.1 _ e_.symm).2 rfl)); have hn643_3 : ad640.block ≠ gb642 := Kd.own_blk (by first | exact Kd.R_ne HO_5.out BK642.out (by decide) | (intro e_; exact (HO_5.out.1 _ e_.symm).2 rfl)); replace hx643_0 := (cell_far (p := ⟨gb642, 0, none⟩) (by first | (rw [add_block]; exact hn643_0) | (show (Addr.add _ _).block ≠ _; rw [add_block]; exact hn643_0) | exact hn643_0) (.string ((rd_T47 t632 x63_3).f0))).trans hx643_0; replace hx643_1 := (cell_far (p := ⟨gb642, 0, none⟩) (by first | (rw [add_block]; exact hn643_0) | (show (Addr.add _ _).block ≠ _; rw [add_block]; exact hn643_0) | exact hn643_0) (.string ((rd_T47 t632 x63_3).f0))).trans hx643_1; replace hx643_2 := (cell_far (p := ⟨gb642, 0, none⟩) (by first | (rw [add_block]; exact hn643_0) | (show (Addr.add _ _).block ≠ _; rw [add_block]; exact hn643_0) | exact hn643_0) (.string ((rd_T47 t632 x63_3).f0))).trans hx643_2; replace hx643_3 := (cell_far (p := ⟨gb642, 0, none⟩) (by first | (rw [add_block]; exact hn643_0) | (show (Addr.add _ _).block ≠ _; rw [add_block]; exact hn643_0) | exact hn643_0) (.string ((rd_T47 t632 x63_3).f0))).trans hx643_3; replace hx643_0 := (cell_far (p := ⟨gb642, 1, none⟩) (by first | (rw [add_block]; exact hn643_1) | (show (Addr.add _ _).block ≠ _; rw [add_block]; exact hn643_1) | exact hn643_1) (.int .i64 ((rd_T47 t632 x63_3).f1))).trans hx643_0; replace hx643_1 := (cell_far (p := ⟨gb642, 1, none⟩) (by first | (rw [add_block]; exact hn643_1) | (show (Addr.add _ _).block ≠ _; rw [add_block]; exact hn643_1) | exact hn643_1) (.int .i64 ((rd_T47 t632 x63_3).f1))).trans hx643_1; replace hx643_2 := (cell_far (p := ⟨gb642, 1, none⟩) (by first | (rw [add_block]; exact hn643_1) | (show (Addr.add _ _).block ≠ _; rw [add_block]; exact hn643_1) | exact hn643_1) (.int .i64 ((rd_T47 t632 x63_3).f1))).trans hx643_2; replace hx643_3 := (cell_far (p := ⟨gb642, 1, none⟩) (by first | (rw [add_block]; exact hn643_1) | (show (Addr.add _ _).block ≠ _; rw [add_block]; exact hn643_1) | exact hn643_1) (.int .i64 ((rd_T47 t632 x63_3).f1))).trans hx643_3; replace hx643_0 := (cell_far (p := ⟨gb642, 2, none⟩) (by first | (rw [add_block]; exact hn643_2) | (show (Addr.add _ _).block ≠ _; rw [add_block]; exact hn643_2) | exact hn643_2) (.int .i64 ((rd_T47 t632 x63_3).f2))).trans hx643_0; replace hx643_1 := (cell_far (p := ⟨gb642, 2, none⟩) (by first | (rw [add_block]; exact hn643_2) | (show (Addr.add _ _).block ≠ _; rw [add_block]; exact hn643_2) | exact hn643_2) (.int .i64 ((rd_T47 t632 x63_3).f2))).trans hx643_1; replace hx643_2 := (cell_far (p := ⟨gb642, 2, none⟩) (by first | (rw [add_block]; exact hn643_2) | (show (Addr.add _ _).block ≠ _; rw [add_block]; exact hn643_2) | exact hn643_2) (.int .i64 ((rd_T47 t632 x63_3).f2))).trans hx643_2; replace hx643_3 := (cell_far (p := ⟨gb642, 2, none⟩) (by first | (rw [add_block]; exact hn643_2) | (show (Addr.add _ _).block ≠ _; rw [add_block]; exact hn643_2) | exact hn643_2) (.int .i64 ((rd_T47 t632 x63_3).f2))).trans hx643_3; replace hx643_0 := (cell_far (p := ⟨gb642, 3, none⟩) (by first | (rw [add_block]; exact hn643_3) | (show (Addr.add _ _).block ≠ _; rw [add_block]; exact hn643_3) | exact hn643_3) (.int .i64 ((rd_T47 t632 x63_3).f3))).trans hx643_0; replace hx643_1 := (cell_far (p := ⟨gb642, 3, none⟩) (by first | (rw [add_block]; exact hn643_3) | (show (Addr.add _ _).block ≠ _; rw [add_block]; exact hn643_3) | exact hn643_3) (.int .i64 ((rd_T47 t632 x63_3).f3))).trans hx643_1; replace hx643_2 := (cell_far (p := ⟨gb642, 3, none⟩) (by first | (rw [add_block]; exact hn643_3) | (show (Addr.add _ _).block ≠ _; rw [add_block]; exact hn643_3) | exact hn643_3) (.int .i64 ((rd_T47 t632 x63_3).f3))).trans hx643_2; replace hx643_3 := (cell_far (p := ⟨gb642, 3, none⟩) (by first | (rw [add_block]; exact hn643_3) | (show (Addr.add _ _).block ≠ _; rw [add_block]; exact hn643_3) | exact hn643_3) (.int .i64 ((rd_T47 t632 x63_3).f3))).trans hx643_3; (try have hy643_0 := fun (n_ : Nat) => (show ((((((w29.drewN n_).setCell ⟨gb642, 0, none⟩ (.string ((rd_T47 t632 x63_3).f0))).setCell ⟨gb642, 1, none⟩ (.int .i64 ((rd_T47 t632 x63_3).f1))).setCell ⟨gb642, 2, none⟩ (.int .i64 ((rd_T47 t632 x63_3).f2))).setCell ⟨gb642, 3, none⟩ (.int .i64 ((rd_T47 t632 x63_3).f3)))).cell? _ = some _ from hx643_0)); (try have hy643_1 := fun (n_ : Nat) => (show ((((((w29.drewN n_).setCell ⟨gb642, 0, none⟩ (.string ((rd_T47 t632 x63_3).f0))).setCell ⟨gb642, 1, none⟩ (.int .i64 ((rd_T47 t632 x63_3).f1))).setCell ⟨gb642, 2, none⟩ (.int .i64 ((rd_T47 t632 x63_3).f2))).setCell ⟨gb642, 3, none⟩ (.int .i64 ((rd_T47 t632 x63_3).f3)))).cell? _ = some _ from hx643_1)); (try have hy643_2 := fun (n_ : Nat) => (show ((((((w29.drewN n_).setCell ⟨gb642, 0, none⟩ (.string ((rd_T47 t632 x63_3).f0))).setCell ⟨gb642, 1, none⟩ (.int .i64 ((rd_T47 t632 x63_3).f1))).setCell ⟨gb642, 2, none⟩ (.int .i64 ((rd_T47 t632 x63_3).f2))).setCell ⟨gb642, 3, none⟩ (.int .i64 ((rd_T47 t632 x63_3).f3)))).cell? _ = some _ from hx643_2)); (try have hy643_3 := fun (n_ : Nat) => (show ((((((w29.drewN n_).setCell ⟨gb642, 0, none⟩ (.string ((rd_T47 t632 x63_3).f0))).setCell ⟨gb642, 1, none⟩ (.int .i64 ((rd_T47 t632 x63_3).f1))).setCell ⟨gb642, 2, none⟩ (.int .i64 ((rd_T47 t632 x63_3).f2))).setCell ⟨gb642, 3, none⟩ (.int .i64 ((rd_T47 t632 x63_3).f3)))).cell? _ = some _ from hx643_3)); clear hn643_0; clear hn643_1; clear hn643_2; clear hn643_3; replace p643 := eq_true p643; replace q643 := eq_true q643)); try go_wp2_with (first | ((with_reducible refine gate_dst (N := 13) rfl ?_); refine box_event ?hg (N := 13) ?hd (cs := #[.string (⟨#[]⟩ : ByteArray), .int .i64 0, .int .i64 0, .int .i64 0]) (t := 47) ?hr ?_; (case hd => rfl); (case hg => rfl); (case hr => first | (go_simp; done) | (go_simp; rfl)); intro gb642 hg w29 hbox hb; have n0_ := zK (Kd.R_below (Kd.R_elderB (by (with_reducible repeat (first | apply Kd.R_alloc | apply Kd.R_drewN | apply Kd.R_drew)); exact HO_5.out) gb642 (Nat.le_of_eq hg.symm)) hb); have n1_ := zK (Kd.R_below (Kd.R_elderB (by (with_reducible repeat (first | apply Kd.R_alloc | apply Kd.R_drewN | apply Kd.R_drew)); exact HO_61.out) gb642 (Nat.le_of_eq hg.symm)) hb); have n2_ := zK (zL (by repeat (first | (with_reducible first | exact HB.out | apply zA | apply zB | apply zC) | exact HB.out)) hb); have n3_ := zK (hbox); have n4_ := zK ((by rw [hg]; exact (zN (by repeat (first | (with_reducible first | exact HB.out | apply zA | apply zB | apply zC) | exact HB.out))) : w.heap.size ≤ gb642)); have n5_ := zK ((by rw [hg]; exact (zN (by repeat (first | (with_reducible first | exact HB.out | apply zA | apply zB | apply zC) | exact HB.out))) : w.heap.size ≤ gb642)); clear HO_5; clear HO_61; clear HB; have HO_5 := n0_; have HO_61 := n1_; have HB := n2_; have BK642 := n3_; have GW642 := n4_; have GE642 := n5_; clear n0_ n1_ n2_ n3_ n4_ n5_; clear hb hbox hg; have hcz30_0 : w29.cell? ⟨gb642, 0, none⟩ = some (.string (⟨#[]⟩ : ByteArray)) := (zI BK642.out 0).trans rfl; have hcz30_1 : w29.cell? ⟨gb642, 1, none⟩ = some (.int .i64 0) := (zI BK642.out 1).trans rfl; have hcz30_2 : w29.cell? ⟨gb642, 2, none⟩ = some (.int .i64 0) := (zI BK642.out 2).trans rfl; have hcz30_3 : w29.cell? ⟨gb642, 3, none⟩ = some (.int .i64 0) := (zI BK642.out 3).trans rfl; have hfz30_0 := zH BK642.out 0; have hfz30_1 := zH BK642.out 1; have hfz30_2 := zH BK642.out 2; have hfz30_3 := zH BK642.out 3; have p643 : 0 ≤ (t633 : Int) := zo; have q643 : t633 < (t632.length : Int) := zo; obtain ⟨ad643, e643, hx643_0, hx643_1, hx643_2, hx643_3⟩ := at_T47 (Kd.R_reads' HO_5.out).2.2 t633 p643 q643; obtain rfl : ad640 = ad643 := (by injection e643); have hn643_0 : ad640.block ≠ gb642 := Kd.own_blk (by first | exact Kd.R_ne HO_5.out BK642.out (by decide) | (intro e_; exact (HO_5.out.1 _ e_.symm).2 rfl)); have hn643_1 : ad640.block ≠ gb642 := Kd.own_blk (by first | exact Kd.R_ne HO_5.out BK642.out (by decide) | (intro e_; exact (HO_5.out.1 _ e_.symm).2 rfl)); have hn643_2 : ad640.block ≠ gb642 := Kd.own_blk (by first | exact Kd.R_ne HO_5.out BK642.out (by decide) | (intro e_; exact (HO_5.out.1 _ e_.symm).2 rfl)); have hn643_3 : ad640.block ≠ gb642 := Kd.own_blk (by first | exact Kd.R_ne HO_5.out BK642.out (by decide) | (intro e_; exact (HO_5.out.1 _ e_.symm).2 rfl)); replace hx643_0 := (cell_far (p := ⟨gb642, 0, none⟩) (by first | (rw [add_block]; exact hn643_0) | (show (Addr.add _ _).block ≠ _; rw [add_block]; exact hn643_0) | exact hn643_0) (.string ((rd_T47 t632 x63_3).f0))).trans hx643_0; replace hx643_1 := (cell_far (p := ⟨gb642, 0, none⟩) (by first | (rw [add_block]; exact hn643_0) | (show (Addr.add _ _).block ≠ _; rw [add_block]; exact hn643_0) | exact hn643_0) (.string ((rd_T47 t632 x63_3).f0))).trans hx643_1; replace hx643_2 := (cell_far (p := ⟨gb642, 0, none⟩) (by first | (rw [add_block]; exact hn643_0) | (show (Addr.add _ _).block ≠ _; rw [add_block]; exact hn643_0) | exact hn643_0) (.string ((rd_T47 t632 x63_3).f0))).trans hx643_2; replace hx643_3 := (cell_far (p := ⟨gb642, 0, none⟩) (by first | (rw [add_block]; exact hn643_0) | (show (Addr.add _ _).block ≠ _; rw [add_block]; exact hn643_0) | exact hn643_0) (.string ((rd_T47 t632 x63_3).f0))).trans hx643_3; replace hx643_0 := (cell_far (p := ⟨gb642, 1, none⟩) (by first | (rw [add_block]; exact hn643_1) | (show (Addr.add _ _).block ≠ _; rw [add_block]; exact hn643_1) | exact hn643_1) (.int .i64 ((rd_T47 t632 x63_3).f1))).trans hx643_0; replace hx643_1 := (cell_far (p := ⟨gb642, 1, none⟩) (by first | (rw [add_block]; exact hn643_1) | (show (Addr.add _ _).block ≠ _; rw [add_block]; exact hn643_1) | exact hn643_1) (.int .i64 ((rd_T47 t632 x63_3).f1))).trans hx643_1; replace hx643_2 := (cell_far (p := ⟨gb642, 1, none⟩) (by first | (rw [add_block]; exact hn643_1) | (show (Addr.add _ _).block ≠ _; rw [add_block]; exact hn643_1) | exact hn643_1) (.int .i64 ((rd_T47 t632 x63_3).f1))).trans hx643_2; replace hx643_3 := (cell_far (p := ⟨gb642, 1, none⟩) (by first | (rw [add_block]; exact hn643_1) | (show (Addr.add _ _).block ≠ _; rw [add_block]; exact hn643_1) | exact hn643_1) (.int .i64 ((rd_T47 t632 x63_3).f1))).trans hx643_3; replace hx643_0 := (cell_far (p := ⟨gb642, 2, none⟩) (by first | (rw [add_block]; exact hn643_2) | (show (Addr.add _ _).block ≠ _; rw [add_block]; exact hn643_2) | exact hn643_2) (.int .i64 ((rd_T47 t632 x63_3).f2))).trans hx643_0; replace hx643_1 := (cell_far (p := ⟨gb642, 2, none⟩) (by first | (rw [add_block]; exact hn643_2) | (show (Addr.add _ _).block ≠ _; rw [add_block]; exact hn643_2) | exact hn643_2) (.int .i64 ((rd_T47 t632 x63_3).f2))).trans hx643_1; replace hx643_2 := (cell_far (p := ⟨gb642, 2, none⟩) (by first | (rw [add_block]; exact hn643_2) | (show (Addr.add _ _).block ≠ _; rw [add_block]; exact hn643_2) | exact hn643_2) (.int .i64 ((rd_T47 t632 x63_3).f2))).trans hx643_2; replace hx643_3 := (cell_far (p := ⟨gb642, 2, none⟩) (by first | (rw [add_block]; exact hn643_2) | (show (Addr.add _ _).block ≠ _; rw [add_block]; exact hn643_2) | exact hn643_2) (.int .i64 ((rd_T47 t632 x63_3).f2))).trans hx643_3; replace hx643_0 := (cell_far (p := ⟨gb642, 3, none⟩) (by first | (rw [add_block]; exact hn643_3) | (show (Addr.add _ _).block ≠ _; rw [add_block]; exact hn643_3) | exact hn643_3) (.int .i64 ((rd_T47 t632 x63_3).f3))).trans hx643_0; replace hx643_1 := (cell_far (p := ⟨gb642, 3, none⟩) (by first | (rw [add_block]; exact hn643_3) | (show (Addr.add _ _).block ≠ _; rw [add_block]; exact hn643_3) | exact hn643_3) (.int .i64 ((rd_T47 t632 x63_3).f3))).trans hx643_1; replace hx643_2 := (cell_far (p := ⟨gb642, 3, none⟩) (by first | (rw [add_block]; exact hn643_3) | (show (Addr.add _ _).block ≠ _; rw [add_block]; exact hn643_3) | exact hn643_3) (.int .i64 ((rd_T47 t632 x63_3).f3))).trans hx643_2; replace hx643_3 := (cell_far (p := ⟨gb642, 3, none⟩) (by first | (rw [add_block]; exact hn643_3) | (show (Addr.add _ _).block ≠ _; rw [add_block]; exact hn643_3) | exact hn643_3) (.int .i64 ((rd_T47 t632 x63_3).f3))).trans hx643_3; (try have hy643_0 := fun (n_ : Nat) => (show ((((((w29.drewN n_).setCell ⟨gb642, 0, none⟩ (.string ((rd_T47 t632 x63_3).f0))).setCell ⟨gb642, 1, none⟩ (.int .i64 ((rd_T47 t632 x63_3).f1))).setCell ⟨gb642, 2, none⟩ (.int .i64 ((rd_T47 t632 x63_3).f2))).setCell ⟨gb642, 3, none⟩ (.int .i64 ((rd_T47 t632 x63_3).f3)))).cell? _ = some _ from hx643_0)); (try have hy643_1 := fun (n_ : Nat) => (show ((((((w29.drewN n_).setCell ⟨gb642, 0, none⟩ (.string ((rd_T47 t632 x63_3).f0))).setCell ⟨gb642, 1, none⟩ (.int .i64 ((rd_T47 t632 x63_3).f1))).setCell ⟨gb642, 2, none⟩ (.int .i64 ((rd_T47 t632 x63_3).f2))).setCell ⟨gb642, 3, none⟩ (.int .i64 ((rd_T47 t632 x63_3).f3)))).cell? _ = some _ from hx643_1)); (try have hy643_2 := fun (n_ : Nat) => (show ((((((w29.drewN n_).setCell ⟨gb642, 0, none⟩ (.string ((rd_T47 t632 x63_3).f0))).setCell ⟨gb642, 1, none⟩ (.int .i64 ((rd_T47 t632 x63_3).f1))).setCell ⟨gb642, 2, none⟩ (.int .i64 ((rd_T47 t632 x63_3).f2))).setCell ⟨gb642, 3, none⟩ (.int .i64 ((rd_T47 t632 x63_3).f3)))).cell? _ = some _ from hx643_2)); (try have hy643_3 := fun (n_ : Nat) => (show ((((((w29.drewN n_).setCell ⟨gb642, 0, none⟩ (.string ((rd_T47 t632 x63_3).f0))).setCell ⟨gb642, 1, none⟩ (.int .i64 ((rd_T47 t632 x63_3).f1))).setCell ⟨gb642, 2, none⟩ (.int .i64 ((rd_T47 t632 x63_3).f2))).setCell ⟨gb642, 3, none⟩ (.int .i64 ((rd_T47 t632 x63_3).f3)))).cell? _ = some _ from hx643_3)); clear hn643_0; clear hn643_1; clear hn643_2; clear hn643_3; replace p643 := eq_true p643; replace q643 := eq_true q643)))
                     go_roundg k3
                     case measure => have := HJ7.out; have := HJ15.out; have := HK3.out; omega
                     case rel => exact ⟨(wrap64 (x11_3 + 1)), (wrap64 (x63_3 + 1)), (by first | rfl | (simp; done) | (simp [*]; done)), (by first | rfl | (simp; done) | (simp [*]; done)), H', ⟨by have := HJ7.out; have := HJ15.out; have := HK3.out; omega⟩, ⟨by (with_reducible repeat (first | apply Kd.R_alloc | apply Kd.R_drewN | apply Kd.R_drew)); exact Kd.R_mono (Kd.R_far (p := ⟨gb642, 3, none⟩) (Kd.R_far (p := ⟨gb642, 2, none⟩) (Kd.R_far (p := ⟨gb642, 1, none⟩) (Kd.R_far (p := ⟨gb642, 0, none⟩) (Kd.R_mono HO_5.out (fun k_ hk => (⟨hk, hk.2⟩ : _ ∧ k_ ≠ gb642))) (fun _ hk => hk.2) (.string ((rd_T47 t632 x63_3).f0))) (fun _ hk => hk.2) (.int .i64 ((rd_T47 t632 x63_3).f1))) (fun _ hk => hk.2) (.int .i64 ((rd_T47 t632 x63_3).f2))) (fun _ hk => hk.2) (.int .i64 ((rd_T47 t632 x63_3).f3))) (fun _ hk => trivial)⟩, ⟨by (with_reducible repeat (first | apply Kd.R_alloc | apply Kd.R_drewN | apply Kd.R_drew)); exact Kd.R_mono (Kd.R_far (p := ⟨gb642, 3, none⟩) (Kd.R_far (p := ⟨gb642, 2, none⟩) (Kd.R_far (p := ⟨gb642, 1, none⟩) (Kd.R_far (p := ⟨gb642, 0, none⟩) (Kd.R_mono HO_61.out (fun k_ hk => (⟨hk, hk.2⟩ : _ ∧ k_ ≠ gb642))) (fun _ hk => hk.2) (.string ((rd_T47 t632 x63_3).f0))) (fun _ hk => hk.2) (.int .i64 ((rd_T47 t632 x63_3).f1))) (fun _ hk => hk.2) (.int .i64 ((rd_T47 t632 x63_3).f2))) (fun _ hk => hk.2) (.int .i64 ((rd_T47 t632 x63_3).f3))) (fun _ hk => trivial)⟩, ⟨by repeat (first | (with_reducible first | exact HB.out | apply zA | apply zB | apply zC | refine zD ?_ GE642.out) | exact HB.out)⟩⟩
                    ·rw [if_neg c28] at H
                     have c28b0 : (((rd_T47 t632 x63_3).f3) == ((rd_T47 t632 t633).f3)) = false := beq_eq_false_iff_ne.mpr c28
                     have c28b1 : (((rd_T47 t632 x63_3).f3) != ((rd_T47 t632 t633).f3)) = true := bne_iff_ne.mpr c28
                     have H' := zK H
                     clear H
                     have p641 : 0 ≤ (x63_3 : Int) := zo
                     have q641 : x63_3 < (t632.length : Int) := zo
                     obtain ⟨ad641, e641, hx641_0, hx641_1, hx641_2, hx641_3⟩ := at_T47 (Kd.R_reads' HO_61.out).2.2 x63_3 p641 q641
                     obtain rfl : ad640 = ad641 := (by injection e641)
                     replace p641 := eq_true p641
                     replace q641 := eq_true q641
                     go_wp2_with (first | ((with_reducible refine gate_dst (N := 13) rfl ?_); refine box_event ?hg (N := 13) ?hd (cs := #[.string (⟨#[]⟩ : ByteArray), .int .i64 0, .int .i64 0, .int .i64 0]) (t := 47) ?hr ?_; (case hd => rfl); (case hg => rfl); (case hr => first | (go_simp; done) | (go_simp; rfl)); intro gb642 hg w31 hbox hb; have n0_ := zK (Kd.R_below (Kd.R_elderB (by (with_reducible repeat (first | apply Kd.R_alloc | apply Kd.R_drewN | apply Kd.R_drew)); exact HO_5.out) gb642 (Nat.le_of_eq hg.symm)) hb); have n1_ := zK (Kd.R_below (Kd.R_elderB (by (with_reducible repeat (first | apply Kd.R_alloc | apply Kd.R_drewN | apply Kd.R_drew)); exact HO_61.out) gb642 (Nat.le_of_eq hg.symm)) hb); have n2_ := zK (zL (by repeat (first | (with_reducible first | exact HB.out | apply zA | apply zB | apply zC) | exact HB.out)) hb); have n3_ := zK (hbox); have n4_ := zK ((by rw [hg]; exact (zN (by repeat (first | (with_reducible first | exact HB.out | apply zA | apply zB | apply zC) | exact HB.out))) : w.heap.size ≤ gb642)); have n5_ := zK ((by rw [hg]; exact (zN (by repeat (first | (with_reducible first | exact HB.out | apply zA | apply zB | apply zC) | exact HB.out))) : w.heap.size ≤ gb642)); clear HO_5; clear HO_61; clear HB; have HO_5 := n0_; have HO_61 := n1_; have HB := n2_; have BK642 := n3_; have GW642 := n4_; have GE642 := n5_; clear n0_ n1_ n2_ n3_ n4_ n5_; clear hb hbox hg; have hcz32_0 : w31.cell? ⟨gb642, 0, none⟩ = some (.string (⟨#[]⟩ : ByteArray)) := (zI BK642.out 0).trans rfl; have hcz32_1 : w31.cell? ⟨gb642, 1, none⟩ = some (.int .i64 0) := (zI BK642.out 1).trans rfl; have hcz32_2 : w31.cell? ⟨gb642, 2, none⟩ = some (.int .i64 0) := (zI BK642.out 2).trans rfl; have hcz32_3 : w31.cell? ⟨gb642, 3, none⟩ = some (.int .i64 0) := (zI BK642.out 3).trans rfl; have hfz32_0 := zH BK642.out 0; have hfz32_1 := zH BK642.out 1; have hfz32_2 := zH BK642.out 2; have hfz32_3 := zH BK642.out 3; have p643 : 0 ≤ (t633 : Int) := zo; have q643 : t633 < (t632.length : Int) := zo; obtain ⟨ad643, e643, hx643_0, hx643_1, hx643_2, hx643_3⟩ := at_T47 (Kd.R_reads' HO_5.out).2.2 t633 p643 q643; obtain rfl : ad640 = ad643 := (by injection e643); have hn643_0 : ad640.block ≠ gb642 := Kd.own_blk (by first | exact Kd.R_ne HO_5.out BK642.out (by decide) | (intro e_; exact (HO_5.out.1 _ e_.symm).2 rfl)); have hn643_1 : ad640.block ≠ gb642 := Kd.own_blk (by first | exact Kd.R_ne HO_5.out BK642.out (by decide) | (intro e_; exact (HO_5.out.1 _ e_.symm).2 rfl)); have hn643_2 : ad640.block ≠ gb642 := Kd.own_blk (by first | exact Kd.R_ne HO_5.out BK642.out (by decide) | (intro e_; exact (HO_5.out.1 _ e_.symm).2 rfl)); have hn643_3 : ad640.block ≠ gb642 := Kd.own_blk (by first | exact Kd.R_ne HO_5.out BK642.out (by decide) | (intro e_; exact (HO_5.out.1 _ e_.symm).2 rfl)); replace hx643_0 := (cell_far (p := ⟨gb642, 0, none⟩) (by first | (rw [add_block]; exact hn643_0) | (show (Addr.add _ _).block ≠ _; rw [add_block]; exact hn643_0) | exact hn643_0) (.string ((rd_T47 t632 x63_3).f0))).trans hx643_0; replace hx643_1 := (cell_far (p := ⟨gb642, 0, none⟩) (by first | (rw [add_block]; exact hn643_0) | (show (Addr.add _ _).block ≠ _; rw [add_block]; exact hn643_0) | exact hn643_0) (.string ((rd_T47 t632 x63_3).f0))).trans hx643_1; replace hx643_2 := (cell_far (p := ⟨gb642, 0, none⟩) (by first | (rw [add_block]; exact hn643_0) | (show (Addr.add _ _).block ≠ _; rw [add_block]; exact hn643_0) | exact hn643_0) (.string ((rd_T47 t632 x63_3).f0))).trans hx643_2; replace hx643_3 := (cell_far (p := ⟨gb642, 0, none⟩) (by first | (rw [add_block]; exact hn643_0) | (show (Addr.add _ _).block ≠ _; rw [add_block]; exact hn643_0) | exact hn643_0) (.string ((rd_T47 t632 x63_3).f0))).trans hx643_3; replace hx643_0 := (cell_far (p := ⟨gb642, 1, none⟩) (by first | (rw [add_block]; exact hn643_1) | (show (Addr.add _ _).block ≠ _; rw [add_block]; exact hn643_1) | exact hn643_1) (.int .i64 ((rd_T47 t632 x63_3).f1))).trans hx643_0; replace hx643_1 := (cell_far (p := ⟨gb642, 1, none⟩) (by first | (rw [add_block]; exact hn643_1) | (show (Addr.add _ _).block ≠ _; rw [add_block]; exact hn643_1) | exact hn643_1) (.int .i64 ((rd_T47 t632 x63_3).f1))).trans hx643_1; replace hx643_2 := (cell_far (p := ⟨gb642, 1, none⟩) (by first | (rw [add_block]; exact hn643_1) | (show (Addr.add _ _).block ≠ _; rw [add_block]; exact hn643_1) | exact hn643_1) (.int .i64 ((rd_T47 t632 x63_3).f1))).trans hx643_2; replace hx643_3 := (cell_far (p := ⟨gb642, 1, none⟩) (by first | (rw [add_block]; exact hn643_1) | (show (Addr.add _ _).block ≠ _; rw [add_block]; exact hn643_1) | exact hn643_1) (.int .i64 ((rd_T47 t632 x63_3).f1))).trans hx643_3; replace hx643_0 := (cell_far (p := ⟨gb642, 2, none⟩) (by first | (rw [add_block]; exact hn643_2) | (show (Addr.add _ _).block ≠ _; rw [add_block]; exact hn643_2) | exact hn643_2) (.int .i64 ((rd_T47 t632 x63_3).f2))).trans hx643_0; replace hx643_1 := (cell_far (p := ⟨gb642, 2, none⟩) (by first | (rw [add_block]; exact hn643_2) | (show (Addr.add _ _).block ≠ _; rw [add_block]; exact hn643_2) | exact hn643_2) (.int .i64 ((rd_T47 t632 x63_3).f2))).trans hx643_1; replace hx643_2 := (cell_far (p := ⟨gb642, 2, none⟩) (by first | (rw [add_block]; exact hn643_2) | (show (Addr.add _ _).block ≠ _; rw [add_block]; exact hn643_2) | exact hn643_2) (.int .i64 ((rd_T47 t632 x63_3).f2))).trans hx643_2; replace hx643_3 := (cell_far (p := ⟨gb642, 2, none⟩) (by first | (rw [add_block]; exact hn643_2) | (show (Addr.add _ _).block ≠ _; rw [add_block]; exact hn643_2) | exact hn643_2) (.int .i64 ((rd_T47 t632 x63_3).f2))).trans hx643_3; replace hx643_0 := (cell_far (p := ⟨gb642, 3, none⟩) (by first | (rw [add_block]; exact hn643_3) | (show (Addr.add _ _).block ≠ _; rw [add_block]; exact hn643_3) | exact hn643_3) (.int .i64 ((rd_T47 t632 x63_3).f3))).trans hx643_0; replace hx643_1 := (cell_far (p := ⟨gb642, 3, none⟩) (by first | (rw [add_block]; exact hn643_3) | (show (Addr.add _ _).block ≠ _; rw [add_block]; exact hn643_3) | exact hn643_3) (.int .i64 ((rd_T47 t632 x63_3).f3))).trans hx643_1; replace hx643_2 := (cell_far (p := ⟨gb642, 3, none⟩) (by first | (rw [add_block]; exact hn643_3) | (show (Addr.add _ _).block ≠ _; rw [add_block]; exact hn643_3) | exact hn643_3) (.int .i64 ((rd_T47 t632 x63_3).f3))).trans hx643_2; replace hx643_3 := (cell_far (p := ⟨gb642, 3, none⟩) (by first | (rw [add_block]; exact hn643_3) | (show (Addr.add _ _).block ≠ _; rw [add_block]; exact hn643_3) | exact hn643_3) (.int .i64 ((rd_T47 t632 x63_3).f3))).trans hx643_3; (try have hy643_0 := fun (n_ : Nat) => (show ((((((w31.drewN n_).setCell ⟨gb642, 0, none⟩ (.string ((rd_T47 t632 x63_3).f0))).setCell ⟨gb642, 1, none⟩ (.int .i64 ((rd_T47 t632 x63_3).f1))).setCell ⟨gb642, 2, none⟩ (.int .i64 ((rd_T47 t632 x63_3).f2))).setCell ⟨gb642, 3, none⟩ (.int .i64 ((rd_T47 t632 x63_3).f3)))).cell? _ = some _ from hx643_0)); (try have hy643_1 := fun (n_ : Nat) => (show ((((((w31.drewN n_).setCell ⟨gb642, 0, none⟩ (.string ((rd_T47 t632 x63_3).f0))).setCell ⟨gb642, 1, none⟩ (.int .i64 ((rd_T47 t632 x63_3).f1))).setCell ⟨gb642, 2, none⟩ (.int .i64 ((rd_T47 t632 x63_3).f2))).setCell ⟨gb642, 3, none⟩ (.int .i64 ((rd_T47 t632 x63_3).f3)))).cell? _ = some _ from hx643_1)); (try have hy643_2 := fun (n_ : Nat) => (show ((((((w31.drewN n_).setCell ⟨gb642, 0, none⟩ (.string ((rd_T47 t632 x63_3).f0))).setCell ⟨gb642, 1, none⟩ (.int .i64 ((rd_T47 t632 x63_3).f1))).setCell ⟨gb642, 2, none⟩ (.int .i64 ((rd_T47 t632 x63_3).f2))).setCell ⟨gb642, 3, none⟩ (.int .i64 ((rd_T47 t632 x63_3).f3)))).cell? _ = some _ from hx643_2)); (try have hy643_3 := fun (n_ : Nat) => (show ((((((w31.drewN n_).setCell ⟨gb642, 0, none⟩ (.string ((rd_T47 t632 x63_3).f0))).setCell ⟨gb642, 1, none⟩ (.int .i64 ((rd_T47 t632 x63_3).f1))).setCell ⟨gb642, 2, none⟩ (.int .i64 ((rd_T47 t632 x63_3).f2))).setCell ⟨gb642, 3, none⟩ (.int .i64 ((rd_T47 t632 x63_3).f3)))).cell? _ = some _ from hx643_3)); clear hn643_0; clear hn643_1; clear hn643_2; clear hn643_3; replace p643 := eq_true p643; replace q643 := eq_true q643))
                     repeat (go_quiet (first | ((with_reducible refine gate_dst (N := 13) rfl ?_); refine box_event ?hg (N := 13) ?hd (cs := #[.string (⟨#[]⟩ : ByteArray), .int .i64 0, .int .i64 0, .int .i64 0]) (t := 47) ?hr ?_; (case hd => rfl); (case hg => rfl); (case hr => first | (go_simp; done) | (go_simp; rfl)); intro gb642 hg w31 hbox hb; have n0_ := zK (Kd.R_below (Kd.R_elderB (by (with_reducible repeat (first | apply Kd.R_alloc | apply Kd.R_drewN | apply Kd.R_drew)); exact HO_5.out) gb642 (Nat.le_of_eq hg.symm)) hb); have n1_ := zK (Kd.R_below (Kd.R_elderB (by (with_reducible repeat (first | apply Kd.R_alloc | apply Kd.R_drewN | apply Kd.R_drew)); exact HO_61.out) gb642 (Nat.le_of_eq hg.symm)) hb); have n2_ := zK (zL (by repeat (first | (with_reducible first | exact HB.out | apply zA | apply zB | apply zC) | exact HB.out)) hb); have n3_ := zK (hbox); have n4_ := zK ((by rw [hg]; exact (zN (by repeat (first | (with_reducible first | exact HB.out | apply zA | apply zB | apply zC) | exact HB.out))) : w.heap.size ≤ gb642)); have n5_ := zK ((by rw [hg]; exact (zN (by repeat (first | (with_reducible first | exact HB.out | apply zA | apply zB | apply zC) | exact HB.out))) : w.heap.size ≤ gb642)); clear HO_5; clear HO_61; clear HB; have HO_5 := n0_; have HO_61 := n1_; have HB := n2_; have BK642 := n3_; have GW642 := n4_; have GE642 := n5_; clear n0_ n1_ n2_ n3_ n4_ n5_; clear hb hbox hg; have hcz32_0 : w31.cell? ⟨gb642, 0, none⟩ = some (.string (⟨#[]⟩ : ByteArray)) := (zI BK642.out 0).trans rfl; have hcz32_1 : w31.cell? ⟨gb642, 1, none⟩ = some (.int .i64 0) := (zI BK642.out 1).trans rfl; have hcz32_2 : w31.cell? ⟨gb642, 2, none⟩ = some (.int .i64 0) := (zI BK642.out 2).trans rfl; have hcz32_3 : w31.cell? ⟨gb642, 3, none⟩ = some (.int .i64 0) := (zI BK642.out 3).trans rfl; have hfz32_0 := zH BK642.out 0; have hfz32_1 := zH BK642.out 1; have hfz32_2 := zH BK642.out 2; have hfz32_3 := zH BK642.out 3; have p643 : 0 ≤ (t633 : Int) := zo; have q643 : t633 < (t632.length : Int) := zo; obtain ⟨ad643, e643, hx643_0, hx643_1, hx643_2, hx643_3⟩ := at_T47 (Kd.R_reads' HO_5.out).2.2 t633 p643 q643; obtain rfl : ad640 = ad643 := (by injection e643); have hn643_0 : ad640.block ≠ gb642 := Kd.own_blk (by first | exact Kd.R_ne HO_5.out BK642.out (by decide) | (intro e_; exact (HO_5.out.1 _ e_.symm).2 rfl)); have hn643_1 : ad640.block ≠ gb642 := Kd.own_blk (by first | exact Kd.R_ne HO_5.out BK642.out (by decide) | (intro e_; exact (HO_5.out.1 _ e_.symm).2 rfl)); have hn643_2 : ad640.block ≠ gb642 := Kd.own_blk (by first | exact Kd.R_ne HO_5.out BK642.out (by decide) | (intro e_; exact (HO_5.out.1 _ e_.symm).2 rfl)); have hn643_3 : ad640.block ≠ gb642 := Kd.own_blk (by first | exact Kd.R_ne HO_5.out BK642.out (by decide) | (intro e_; exact (HO_5.out.1 _ e_.symm).2 rfl)); replace hx643_0 := (cell_far (p := ⟨gb642, 0, none⟩) (by first | (rw [add_block]; exact hn643_0) | (show (Addr.add _ _).block ≠ _; rw [add_block]; exact hn643_0) | exact hn643_0) (.string ((rd_T47 t632 x63_3).f0))).trans hx643_0; replace hx643_1 := (cell_far (p := ⟨gb642, 0, none⟩) (by first | (rw [add_block]; exact hn643_0) | (show (Addr.add _ _).block ≠ _; rw [add_block]; exact hn643_0) | exact hn643_0) (.string ((rd_T47 t632 x63_3).f0))).trans hx643_1; replace hx643_2 := (cell_far (p := ⟨gb642, 0, none⟩) (by first | (rw [add_block]; exact hn643_0) | (show (Addr.add _ _).block ≠ _; rw [add_block]; exact hn643_0) | exact hn643_0) (.string ((rd_T47 t632 x63_3).f0))).trans hx643_2; replace hx643_3 := (cell_far (p := ⟨gb642, 0, none⟩) (by first | (rw [add_block]; exact hn643_0) | (show (Addr.add _ _).block ≠ _; rw [add_block]; exact hn643_0) | exact hn643_0) (.string ((rd_T47 t632 x63_3).f0))).trans hx643_3; replace hx643_0 := (cell_far (p := ⟨gb642, 1, none⟩) (by first | (rw [add_block]; exact hn643_1) | (show (Addr.add _ _).block ≠ _; rw [add_block]; exact hn643_1) | exact hn643_1) (.int .i64 ((rd_T47 t632 x63_3).f1))).trans hx643_0; replace hx643_1 := (cell_far (p := ⟨gb642, 1, none⟩) (by first | (rw [add_block]; exact hn643_1) | (show (Addr.add _ _).block ≠ _; rw [add_block]; exact hn643_1) | exact hn643_1) (.int .i64 ((rd_T47 t632 x63_3).f1))).trans hx643_1; replace hx643_2 := (cell_far (p := ⟨gb642, 1, none⟩) (by first | (rw [add_block]; exact hn643_1) | (show (Addr.add _ _).block ≠ _; rw [add_block]; exact hn643_1) | exact hn643_1) (.int .i64 ((rd_T47 t632 x63_3).f1))).trans hx643_2; replace hx643_3 := (cell_far (p := ⟨gb642, 1, none⟩) (by first | (rw [add_block]; exact hn643_1) | (show (Addr.add _ _).block ≠ _; rw [add_block]; exact hn643_1) | exact hn643_1) (.int .i64 ((rd_T47 t632 x63_3).f1))).trans hx643_3; replace hx643_0 := (cell_far (p := ⟨gb642, 2, none⟩) (by first | (rw [add_block]; exact hn643_2) | (show (Addr.add _ _).block ≠ _; rw [add_block]; exact hn643_2) | exact hn643_2) (.int .i64 ((rd_T47 t632 x63_3).f2))).trans hx643_0; replace hx643_1 := (cell_far (p := ⟨gb642, 2, none⟩) (by first | (rw [add_block]; exact hn643_2) | (show (Addr.add _ _).block ≠ _; rw [add_block]; exact hn643_2) | exact hn643_2) (.int .i64 ((rd_T47 t632 x63_3).f2))).trans hx643_1; replace hx643_2 := (cell_far (p := ⟨gb642, 2, none⟩) (by first | (rw [add_block]; exact hn643_2) | (show (Addr.add _ _).block ≠ _; rw [add_block]; exact hn643_2) | exact hn643_2) (.int .i64 ((rd_T47 t632 x63_3).f2))).trans hx643_2; replace hx643_3 := (cell_far (p := ⟨gb642, 2, none⟩) (by first | (rw [add_block]; exact hn643_2) | (show (Addr.add _ _).block ≠ _; rw [add_block]; exact hn643_2) | exact hn643_2) (.int .i64 ((rd_T47 t632 x63_3).f2))).trans hx643_3; replace hx643_0 := (cell_far (p := ⟨gb642, 3, none⟩) (by first | (rw [add_block]; exact hn643_3) | (show (Addr.add _ _).block ≠ _; rw [add_block]; exact hn643_3) | exact hn643_3) (.int .i64 ((rd_T47 t632 x63_3).f3))).trans hx643_0; replace hx643_1 := (cell_far (p := ⟨gb642, 3, none⟩) (by first | (rw [add_block]; exact hn643_3) | (show (Addr.add _ _).block ≠ _; rw [add_block]; exact hn643_3) | exact hn643_3) (.int .i64 ((rd_T47 t632 x63_3).f3))).trans hx643_1; replace hx643_2 := (cell_far (p := ⟨gb642, 3, none⟩) (by first | (rw [add_block]; exact hn643_3) | (show (Addr.add _ _).block ≠ _; rw [add_block]; exact hn643_3) | exact hn643_3) (.int .i64 ((rd_T47 t632 x63_3).f3))).trans hx643_2; replace hx643_3 := (cell_far (p := ⟨gb642, 3, none⟩) (by first | (rw [add_block]; exact hn643_3) | (show (Addr.add _ _).block ≠ _; rw [add_block]; exact hn643_3) | exact hn643_3) (.int .i64 ((rd_T47 t632 x63_3).f3))).trans hx643_3; (try have hy643_0 := fun (n_ : Nat) => (show ((((((w31.drewN n_).setCell ⟨gb642, 0, none⟩ (.string ((rd_T47 t632 x63_3).f0))).setCell ⟨gb642, 1, none⟩ (.int .i64 ((rd_T47 t632 x63_3).f1))).setCell ⟨gb642, 2, none⟩ (.int .i64 ((rd_T47 t632 x63_3).f2))).setCell ⟨gb642, 3, none⟩ (.int .i64 ((rd_T47 t632 x63_3).f3)))).cell? _ = some _ from hx643_0)); (try have hy643_1 := fun (n_ : Nat) => (show ((((((w31.drewN n_).setCell ⟨gb642, 0, none⟩ (.string ((rd_T47 t632 x63_3).f0))).setCell ⟨gb642, 1, none⟩ (.int .i64 ((rd_T47 t632 x63_3).f1))).setCell ⟨gb642, 2, none⟩ (.int .i64 ((rd_T47 t632 x63_3).f2))).setCell ⟨gb642, 3, none⟩ (.int .i64 ((rd_T47 t632 x63_3).f3)))).cell? _ = some _ from hx643_1)); (try have hy643_2 := fun (n_ : Nat) => (show ((((((w31.drewN n_).setCell ⟨gb642, 0, none⟩ (.string ((rd_T47 t632 x63_3).f0))).setCell ⟨gb642, 1, none⟩ (.int .i64 ((rd_T47 t632 x63_3).f1))).setCell ⟨gb642, 2, none⟩ (.int .i64 ((rd_T47 t632 x63_3).f2))).setCell ⟨gb642, 3, none⟩ (.int .i64 ((rd_T47 t632 x63_3).f3)))).cell? _ = some _ from hx643_2)); (try have hy643_3 := fun (n_ : Nat) => (show ((((((w31.drewN n_).setCell ⟨gb642, 0, none⟩ (.string ((rd_T47 t632 x63_3).f0))).setCell ⟨gb642, 1, none⟩ (.int .i64 ((rd_T47 t632 x63_3).f1))).setCell ⟨gb642, 2, none⟩ (.int .i64 ((rd_T47 t632 x63_3).f2))).setCell ⟨gb642, 3, none⟩ (.int .i64 ((rd_T47 t632 x63_3).f3)))).cell? _ = some _ from hx643_3)); clear hn643_0; clear hn643_1; clear hn643_2; clear hn643_3; replace p643 := eq_true p643; replace q643 := eq_true q643)); try go_wp2_with (first | ((with_reducible refine gate_dst (N := 13) rfl ?_); refine box_event ?hg (N := 13) ?hd (cs := #[.string (⟨#[]⟩ : ByteArray), .int .i64 0, .int .i64 0, .int .i64 0]) (t := 47) ?hr ?_; (case hd => rfl); (case hg => rfl); (case hr => first | (go_simp; done) | (go_simp; rfl)); intro gb642 hg w31 hbox hb; have n0_ := zK (Kd.R_below (Kd.R_elderB (by (with_reducible repeat (first | apply Kd.R_alloc | apply Kd.R_drewN | apply Kd.R_drew)); exact HO_5.out) gb642 (Nat.le_of_eq hg.symm)) hb); have n1_ := zK (Kd.R_below (Kd.R_elderB (by (with_reducible repeat (first | apply Kd.R_alloc | apply Kd.R_drewN | apply Kd.R_drew)); exact HO_61.out) gb642 (Nat.le_of_eq hg.symm)) hb); have n2_ := zK (zL (by repeat (first | (with_reducible first | exact HB.out | apply zA | apply zB | apply zC) | exact HB.out)) hb); have n3_ := zK (hbox); have n4_ := zK ((by rw [hg]; exact (zN (by repeat (first | (with_reducible first | exact HB.out | apply zA | apply zB | apply zC) | exact HB.out))) : w.heap.size ≤ gb642)); have n5_ := zK ((by rw [hg]; exact (zN (by repeat (first | (with_reducible first | exact HB.out | apply zA | apply zB | apply zC) | exact HB.out))) : w.heap.size ≤ gb642)); clear HO_5; clear HO_61; clear HB; have HO_5 := n0_; have HO_61 := n1_; have HB := n2_; have BK642 := n3_; have GW642 := n4_; have GE642 := n5_; clear n0_ n1_ n2_ n3_ n4_ n5_; clear hb hbox hg; have hcz32_0 : w31.cell? ⟨gb642, 0, none⟩ = some (.string (⟨#[]⟩ : ByteArray)) := (zI BK642.out 0).trans rfl; have hcz32_1 : w31.cell? ⟨gb642, 1, none⟩ = some (.int .i64 0) := (zI BK642.out 1).trans rfl; have hcz32_2 : w31.cell? ⟨gb642, 2, none⟩ = some (.int .i64 0) := (zI BK642.out 2).trans rfl; have hcz32_3 : w31.cell? ⟨gb642, 3, none⟩ = some (.int .i64 0) := (zI BK642.out 3).trans rfl; have hfz32_0 := zH BK642.out 0; have hfz32_1 := zH BK642.out 1; have hfz32_2 := zH BK642.out 2; have hfz32_3 := zH BK642.out 3; have p643 : 0 ≤ (t633 : Int) := zo; have q643 : t633 < (t632.length : Int) := zo; obtain ⟨ad643, e643, hx643_0, hx643_1, hx643_2, hx643_3⟩ := at_T47 (Kd.R_reads' HO_5.out).2.2 t633 p643 q643; obtain rfl : ad640 = ad643 := (by injection e643); have hn643_0 : ad640.block ≠ gb642 := Kd.own_blk (by first | exact Kd.R_ne HO_5.out BK642.out (by decide) | (intro e_; exact (HO_5.out.1 _ e_.symm).2 rfl)); have hn643_1 : ad640.block ≠ gb642 := Kd.own_blk (by first | exact Kd.R_ne HO_5.out BK642.out (by decide) | (intro e_; exact (HO_5.out.1 _ e_.symm).2 rfl)); have hn643_2 : ad640.block ≠ gb642 := Kd.own_blk (by first | exact Kd.R_ne HO_5.out BK642.out (by decide) | (intro e_; exact (HO_5.out.1 _ e_.symm).2 rfl)); have hn643_3 : ad640.block ≠ gb642 := Kd.own_blk (by first | exact Kd.R_ne HO_5.out BK642.out (by decide) | (intro e_; exact (HO_5.out.1 _ e_.symm).2 rfl)); replace hx643_0 := (cell_far (p := ⟨gb642, 0, none⟩) (by first | (rw [add_block]; exact hn643_0) | (show (Addr.add _ _).block ≠ _; rw [add_block]; exact hn643_0) | exact hn643_0) (.string ((rd_T47 t632 x63_3).f0))).trans hx643_0; replace hx643_1 := (cell_far (p := ⟨gb642, 0, none⟩) (by first | (rw [add_block]; exact hn643_0) | (show (Addr.add _ _).block ≠ _; rw [add_block]; exact hn643_0) | exact hn643_0) (.string ((rd_T47 t632 x63_3).f0))).trans hx643_1; replace hx643_2 := (cell_far (p := ⟨gb642, 0, none⟩) (by first | (rw [add_block]; exact hn643_0) | (show (Addr.add _ _).block ≠ _; rw [add_block]; exact hn643_0) | exact hn643_0) (.string ((rd_T47 t632 x63_3).f0))).trans hx643_2; replace hx643_3 := (cell_far (p := ⟨gb642, 0, none⟩) (by first | (rw [add_block]; exact hn643_0) | (show (Addr.add _ _).block ≠ _; rw [add_block]; exact hn643_0) | exact hn643_0) (.string ((rd_T47 t632 x63_3).f0))).trans hx643_3; replace hx643_0 := (cell_far (p := ⟨gb642, 1, none⟩) (by first | (rw [add_block]; exact hn643_1) | (show (Addr.add _ _).block ≠ _; rw [add_block]; exact hn643_1) | exact hn643_1) (.int .i64 ((rd_T47 t632 x63_3).f1))).trans hx643_0; replace hx643_1 := (cell_far (p := ⟨gb642, 1, none⟩) (by first | (rw [add_block]; exact hn643_1) | (show (Addr.add _ _).block ≠ _; rw [add_block]; exact hn643_1) | exact hn643_1) (.int .i64 ((rd_T47 t632 x63_3).f1))).trans hx643_1; replace hx643_2 := (cell_far (p := ⟨gb642, 1, none⟩) (by first | (rw [add_block]; exact hn643_1) | (show (Addr.add _ _).block ≠ _; rw [add_block]; exact hn643_1) | exact hn643_1) (.int .i64 ((rd_T47 t632 x63_3).f1))).trans hx643_2; replace hx643_3 := (cell_far (p := ⟨gb642, 1, none⟩) (by first | (rw [add_block]; exact hn643_1) | (show (Addr.add _ _).block ≠ _; rw [add_block]; exact hn643_1) | exact hn643_1) (.int .i64 ((rd_T47 t632 x63_3).f1))).trans hx643_3; replace hx643_0 := (cell_far (p := ⟨gb642, 2, none⟩) (by first | (rw [add_block]; exact hn643_2) | (show (Addr.add _ _).block ≠ _; rw [add_block]; exact hn643_2) | exact hn643_2) (.int .i64 ((rd_T47 t632 x63_3).f2))).trans hx643_0; replace hx643_1 := (cell_far (p := ⟨gb642, 2, none⟩) (by first | (rw [add_block]; exact hn643_2) | (show (Addr.add _ _).block ≠ _; rw [add_block]; exact hn643_2) | exact hn643_2) (.int .i64 ((rd_T47 t632 x63_3).f2))).trans hx643_1; replace hx643_2 := (cell_far (p := ⟨gb642, 2, none⟩) (by first | (rw [add_block]; exact hn643_2) | (show (Addr.add _ _).block ≠ _; rw [add_block]; exact hn643_2) | exact hn643_2) (.int .i64 ((rd_T47 t632 x63_3).f2))).trans hx643_2; replace hx643_3 := (cell_far (p := ⟨gb642, 2, none⟩) (by first | (rw [add_block]; exact hn643_2) | (show (Addr.add _ _).block ≠ _; rw [add_block]; exact hn643_2) | exact hn643_2) (.int .i64 ((rd_T47 t632 x63_3).f2))).trans hx643_3; replace hx643_0 := (cell_far (p := ⟨gb642, 3, none⟩) (by first | (rw [add_block]; exact hn643_3) | (show (Addr.add _ _).block ≠ _; rw [add_block]; exact hn643_3) | exact hn643_3) (.int .i64 ((rd_T47 t632 x63_3).f3))).trans hx643_0; replace hx643_1 := (cell_far (p := ⟨gb642, 3, none⟩) (by first | (rw [add_block]; exact hn643_3) | (show (Addr.add _ _).block ≠ _; rw [add_block]; exact hn643_3) | exact hn643_3) (.int .i64 ((rd_T47 t632 x63_3).f3))).trans hx643_1; replace hx643_2 := (cell_far (p := ⟨gb642, 3, none⟩) (by first | (rw [add_block]; exact hn643_3) | (show (Addr.add _ _).block ≠ _; rw [add_block]; exact hn643_3) | exact hn643_3) (.int .i64 ((rd_T47 t632 x63_3).f3))).trans hx643_2; replace hx643_3 := (cell_far (p := ⟨gb642, 3, none⟩) (by first | (rw [add_block]; exact hn643_3) | (show (Addr.add _ _).block ≠ _; rw [add_block]; exact hn643_3) | exact hn643_3) (.int .i64 ((rd_T47 t632 x63_3).f3))).trans hx643_3; (try have hy643_0 := fun (n_ : Nat) => (show ((((((w31.drewN n_).setCell ⟨gb642, 0, none⟩ (.string ((rd_T47 t632 x63_3).f0))).setCell ⟨gb642, 1, none⟩ (.int .i64 ((rd_T47 t632 x63_3).f1))).setCell ⟨gb642, 2, none⟩ (.int .i64 ((rd_T47 t632 x63_3).f2))).setCell ⟨gb642, 3, none⟩ (.int .i64 ((rd_T47 t632 x63_3).f3)))).cell? _ = some _ from hx643_0)); (try have hy643_1 := fun (n_ : Nat) => (show ((((((w31.drewN n_).setCell ⟨gb642, 0, none⟩ (.string ((rd_T47 t632 x63_3).f0))).setCell ⟨gb642, 1, none⟩ (.int .i64 ((rd_T47 t632 x63_3).f1))).setCell ⟨gb642, 2, none⟩ (.int .i64 ((rd_T47 t632 x63_3).f2))).setCell ⟨gb642, 3, none⟩ (.int .i64 ((rd_T47 t632 x63_3).f3)))).cell? _ = some _ from hx643_1)); (try have hy643_2 := fun (n_ : Nat) => (show ((((((w31.drewN n_).setCell ⟨gb642, 0, none⟩ (.string ((rd_T47 t632 x63_3).f0))).setCell ⟨gb642, 1, none⟩ (.int .i64 ((rd_T47 t632 x63_3).f1))).setCell ⟨gb642, 2, none⟩ (.int .i64 ((rd_T47 t632 x63_3).f2))).setCell ⟨gb642, 3, none⟩ (.int .i64 ((rd_T47 t632 x63_3).f3)))).cell? _ = some _ from hx643_2)); (try have hy643_3 := fun (n_ : Nat) => (show ((((((w31.drewN n_).setCell ⟨gb642, 0, none⟩ (.string ((rd_T47 t632 x63_3).f0))).setCell ⟨gb642, 1, none⟩ (.int .i64 ((rd_T47 t632 x63_3).f1))).setCell ⟨gb642, 2, none⟩ (.int .i64 ((rd_T47 t632 x63_3).f2))).setCell ⟨gb642, 3, none⟩ (.int .i64 ((rd_T47 t632 x63_3).f3)))).cell? _ = some _ from hx643_3)); clear hn643_0; clear hn643_1; clear hn643_2; clear hn643_3; replace p643 := eq_true p643; replace q643 := eq_true q643)))
                     go_roundg k3
                     case measure => have := HJ7.out; have := HJ15.out; have := HK3.out; omega
                     case rel => exact ⟨(x11_3), (wrap64 (x63_3 + 1)), (by first | rfl | (simp; done) | (simp [*]; done)), (by first | rfl | (simp; done) | (simp [*]; done)), H', ⟨by have := HJ7.out; have := HJ15.out; have := HK3.out; omega⟩, ⟨by (with_reducible repeat (first | apply Kd.R_alloc | apply Kd.R_drewN | apply Kd.R_drew)); exact Kd.R_mono (Kd.R_far (p := ⟨gb642, 3, none⟩) (Kd.R_far (p := ⟨gb642, 2, none⟩) (Kd.R_far (p := ⟨gb642, 1, none⟩) (Kd.R_far (p := ⟨gb642, 0, none⟩) (Kd.R_mono HO_5.out (fun k_ hk => (⟨hk, hk.2⟩ : _ ∧ k_ ≠ gb642))) (fun _ hk => hk.2) (.string ((rd_T47 t632 x63_3).f0))) (fun _ hk => hk.2) (.int .i64 ((rd_T47 t632 x63_3).f1))) (fun _ hk => hk.2) (.int .i64 ((rd_T47 t632 x63_3).f2))) (fun _ hk => hk.2) (.int .i64 ((rd_T47 t632 x63_3).f3))) (fun _ hk => trivial)⟩, ⟨by (with_reducible repeat (first | apply Kd.R_alloc | apply Kd.R_drewN | apply Kd.R_drew)); exact Kd.R_mono (Kd.R_far (p := ⟨gb642, 3, none⟩) (Kd.R_far (p := ⟨gb642, 2, none⟩) (Kd.R_far (p := ⟨gb642, 1, none⟩) (Kd.R_far (p := ⟨gb642, 0, none⟩) (Kd.R_mono HO_61.out (fun k_ hk => (⟨hk, hk.2⟩ : _ ∧ k_ ≠ gb642))) (fun _ hk => hk.2) (.string ((rd_T47 t632 x63_3).f0))) (fun _ hk => hk.2) (.int .i64 ((rd_T47 t632 x63_3).f1))) (fun _ hk => hk.2) (.int .i64 ((rd_T47 t632 x63_3).f2))) (fun _ hk => hk.2) (.int .i64 ((rd_T47 t632 x63_3).f3))) (fun _ hk => trivial)⟩, ⟨by repeat (first | (with_reducible first | exact HB.out | apply zA | apply zB | apply zC | refine zD ?_ GE642.out) | exact HB.out)⟩⟩
                   ·rw [if_neg c27] at H
                    exact absurd H (by simp)
                  ·rw [if_neg c26] at H
                   exact absurd H (by simp)
                 ·rw [if_neg c25] at H
                  have c25b0 : (((rd_T47 t632 x63_3).f0).toList == ([105, 110] : List UInt8)) = false := beq_eq_false_iff_ne.mpr c25
                  have c25b1 : (((rd_T47 t632 x63_3).f0).toList != ([105, 110] : List UInt8)) = true := bne_iff_ne.mpr c25
                  have H' := zK H
                  clear H
                  have p641 : 0 ≤ (x63_3 : Int) := zo
                  have q641 : x63_3 < (t632.length : Int) := zo
                  obtain ⟨ad641, e641, hx641_0, hx641_1, hx641_2, hx641_3⟩ := at_T47 (Kd.R_reads' HO_61.out).2.2 x63_3 p641 q641
                  obtain rfl : ad640 = ad641 := (by injection e641)
                  replace p641 := eq_true p641
                  replace q641 := eq_true q641
                  go_wp2_with (first | ((with_reducible refine gate_dst (N := 13) rfl ?_); refine box_event ?hg (N := 13) ?hd (cs := #[.string (⟨#[]⟩ : ByteArray), .int .i64 0, .int .i64 0, .int .i64 0]) (t := 47) ?hr ?_; (case hd => rfl); (case hg => rfl); (case hr => first | (go_simp; done) | (go_simp; rfl)); intro gb642 hg w33 hbox hb; have n0_ := zK (Kd.R_below (Kd.R_elderB (by (with_reducible repeat (first | apply Kd.R_alloc | apply Kd.R_drewN | apply Kd.R_drew)); exact HO_5.out) gb642 (Nat.le_of_eq hg.symm)) hb); have n1_ := zK (Kd.R_below (Kd.R_elderB (by (with_reducible repeat (first | apply Kd.R_alloc | apply Kd.R_drewN | apply Kd.R_drew)); exact HO_61.out) gb642 (Nat.le_of_eq hg.symm)) hb); have n2_ := zK (zL (by repeat (first | (with_reducible first | exact HB.out | apply zA | apply zB | apply zC) | exact HB.out)) hb); have n3_ := zK (hbox); have n4_ := zK ((by rw [hg]; exact (zN (by repeat (first | (with_reducible first | exact HB.out | apply zA | apply zB | apply zC) | exact HB.out))) : w.heap.size ≤ gb642)); have n5_ := zK ((by rw [hg]; exact (zN (by repeat (first | (with_reducible first | exact HB.out | apply zA | apply zB | apply zC) | exact HB.out))) : w.heap.size ≤ gb642)); clear HO_5; clear HO_61; clear HB; have HO_5 := n0_; have HO_61 := n1_; have HB := n2_; have BK642 := n3_; have GW642 := n4_; have GE642 := n5_; clear n0_ n1_ n2_ n3_ n4_ n5_; clear hb hbox hg; have hcz34_0 : w33.cell? ⟨gb642, 0, none⟩ = some (.string (⟨#[]⟩ : ByteArray)) := (zI BK642.out 0).trans rfl; have hcz34_1 : w33.cell? ⟨gb642, 1, none⟩ = some (.int .i64 0) := (zI BK642.out 1).trans rfl; have hcz34_2 : w33.cell? ⟨gb642, 2, none⟩ = some (.int .i64 0) := (zI BK642.out 2).trans rfl; have hcz34_3 : w33.cell? ⟨gb642, 3, none⟩ = some (.int .i64 0) := (zI BK642.out 3).trans rfl; have hfz34_0 := zH BK642.out 0; have hfz34_1 := zH BK642.out 1; have hfz34_2 := zH BK642.out 2; have hfz34_3 := zH BK642.out 3))
                  repeat (go_quiet (first | ((with_reducible refine gate_dst (N := 13) rfl ?_); refine box_event ?hg (N := 13) ?hd (cs := #[.string (⟨#[]⟩ : ByteArray), .int .i64 0, .int .i64 0, .int .i64 0]) (t := 47) ?hr ?_; (case hd => rfl); (case hg => rfl); (case hr => first | (go_simp; done) | (go_simp; rfl)); intro gb642 hg w33 hbox hb; have n0_ := zK (Kd.R_below (Kd.R_elderB (by (with_reducible repeat (first | apply Kd.R_alloc | apply Kd.R_drewN | apply Kd.R_drew)); exact HO_5.out) gb642 (Nat.le_of_eq hg.symm)) hb); have n1_ := zK (Kd.R_below (Kd.R_elderB (by (with_reducible repeat (first | apply Kd.R_alloc | apply Kd.R_drewN | apply Kd.R_drew)); exact HO_61.out) gb642 (Nat.le_of_eq hg.symm)) hb); have n2_ := zK (zL (by repeat (first | (with_reducible first | exact HB.out | apply zA | apply zB | apply zC) | exact HB.out)) hb); have n3_ := zK (hbox); have n4_ := zK ((by rw [hg]; exact (zN (by repeat (first | (with_reducible first | exact HB.out | apply zA | apply zB | apply zC) | exact HB.out))) : w.heap.size ≤ gb642)); have n5_ := zK ((by rw [hg]; exact (zN (by repeat (first | (with_reducible first | exact HB.out | apply zA | apply zB | apply zC) | exact HB.out))) : w.heap.size ≤ gb642)); clear HO_5; clear HO_61; clear HB; have HO_5 := n0_; have HO_61 := n1_; have HB := n2_; have BK642 := n3_; have GW642 := n4_; have GE642 := n5_; clear n0_ n1_ n2_ n3_ n4_ n5_; clear hb hbox hg; have hcz34_0 : w33.cell? ⟨gb642, 0, none⟩ = some (.string (⟨#[]⟩ : ByteArray)) := (zI BK642.out 0).trans rfl; have hcz34_1 : w33.cell? ⟨gb642, 1, none⟩ = some (.int .i64 0) := (zI BK642.out 1).trans rfl; have hcz34_2 : w33.cell? ⟨gb642, 2, none⟩ = some (.int .i64 0) := (zI BK642.out 2).trans rfl; have hcz34_3 : w33.cell? ⟨gb642, 3, none⟩ = some (.int .i64 0) := (zI BK642.out 3).trans rfl; have hfz34_0 := zH BK642.out 0; have hfz34_1 := zH BK642.out 1; have hfz34_2 := zH BK642.out 2; have hfz34_3 := zH BK642.out 3)); try go_wp2_with (first | ((with_reducible refine gate_dst (N := 13) rfl ?_); refine box_event ?hg (N := 13) ?hd (cs := #[.string (⟨#[]⟩ : ByteArray), .int .i64 0, .int .i64 0, .int .i64 0]) (t := 47) ?hr ?_; (case hd => rfl); (case hg => rfl); (case hr => first | (go_simp; done) | (go_simp; rfl)); intro gb642 hg w33 hbox hb; have n0_ := zK (Kd.R_below (Kd.R_elderB (by (with_reducible repeat (first | apply Kd.R_alloc | apply Kd.R_drewN | apply Kd.R_drew)); exact HO_5.out) gb642 (Nat.le_of_eq hg.symm)) hb); have n1_ := zK (Kd.R_below (Kd.R_elderB (by (with_reducible repeat (first | apply Kd.R_alloc | apply Kd.R_drewN | apply Kd.R_drew)); exact HO_61.out) gb642 (Nat.le_of_eq hg.symm)) hb); have n2_ := zK (zL (by repeat (first | (with_reducible first | exact HB.out | apply zA | apply zB | apply zC) | exact HB.out)) hb); have n3_ := zK (hbox); have n4_ := zK ((by rw [hg]; exact (zN (by repeat (first | (with_reducible first | exact HB.out | apply zA | apply zB | apply zC) | exact HB.out))) : w.heap.size ≤ gb642)); have n5_ := zK ((by rw [hg]; exact (zN (by repeat (first | (with_reducible first | exact HB.out | apply zA | apply zB | apply zC) | exact HB.out))) : w.heap.size ≤ gb642)); clear HO_5; clear HO_61; clear HB; have HO_5 := n0_; have HO_61 := n1_; have HB := n2_; have BK642 := n3_; have GW642 := n4_; have GE642 := n5_; clear n0_ n1_ n2_ n3_ n4_ n5_; clear hb hbox hg; have hcz34_0 : w33.cell? ⟨gb642, 0, none⟩ = some (.string (⟨#[]⟩ : ByteArray)) := (zI BK642.out 0).trans rfl; have hcz34_1 : w33.cell? ⟨gb642, 1, none⟩ = some (.int .i64 0) := (zI BK642.out 1).trans rfl; have hcz34_2 : w33.cell? ⟨gb642, 2, none⟩ = some (.int .i64 0) := (zI BK642.out 2).trans rfl; have hcz34_3 : w33.cell? ⟨gb642, 3, none⟩ = some (.int .i64 0) := (zI BK642.out 3).trans rfl; have hfz34_0 := zH BK642.out 0; have hfz34_1 := zH BK642.out 1; have hfz34_2 := zH BK642.out 2; have hfz34_3 := zH BK642.out 3)))
                  go_roundg k3
                  case measure => have := HJ7.out; have := HJ15.out; have := HK3.out; omega
                  case rel => exact ⟨(x11_3), (wrap64 (x63_3 + 1)), (by first | rfl | (simp; done) | (simp [*]; done)), (by first | rfl | (simp; done) | (simp [*]; done)), H', ⟨by have := HJ7.out; have := HJ15.out; have := HK3.out; omega⟩, ⟨by (with_reducible repeat (first | apply Kd.R_alloc | apply Kd.R_drewN | apply Kd.R_drew)); exact Kd.R_mono (Kd.R_far (p := ⟨gb642, 3, none⟩) (Kd.R_far (p := ⟨gb642, 2, none⟩) (Kd.R_far (p := ⟨gb642, 1, none⟩) (Kd.R_far (p := ⟨gb642, 0, none⟩) (Kd.R_mono HO_5.out (fun k_ hk => (⟨hk, hk.2⟩ : _ ∧ k_ ≠ gb642))) (fun _ hk => hk.2) (.string ((rd_T47 t632 x63_3).f0))) (fun _ hk => hk.2) (.int .i64 ((rd_T47 t632 x63_3).f1))) (fun _ hk => hk.2) (.int .i64 ((rd_T47 t632 x63_3).f2))) (fun _ hk => hk.2) (.int .i64 ((rd_T47 t632 x63_3).f3))) (fun _ hk => trivial)⟩, ⟨by (with_reducible repeat (first | apply Kd.R_alloc | apply Kd.R_drewN | apply Kd.R_drew)); exact Kd.R_mono (Kd.R_far (p := ⟨gb642, 3, none⟩) (Kd.R_far (p := ⟨gb642, 2, none⟩) (Kd.R_far (p := ⟨gb642, 1, none⟩) (Kd.R_far (p := ⟨gb642, 0, none⟩) (Kd.R_mono HO_61.out (fun k_ hk => (⟨hk, hk.2⟩ : _ ∧ k_ ≠ gb642))) (fun _ hk => hk.2) (.string ((rd_T47 t632 x63_3).f0))) (fun _ hk => hk.2) (.int .i64 ((rd_T47 t632 x63_3).f1))) (fun _ hk => hk.2) (.int .i64 ((rd_T47 t632 x63_3).f2))) (fun _ hk => hk.2) (.int .i64 ((rd_T47 t632 x63_3).f3))) (fun _ hk => trivial)⟩, ⟨by repeat (first | (with_reducible first | exact HB.out | apply zA | apply zB | apply zC | refine zD ?_ GE642.out) | exact HB.out)⟩⟩
                ·rw [if_neg c24] at H
                 exact absurd H (by simp)
               ·rw [if_neg c23] at H
                exact absurd H (by simp)
              ·rw [if_neg c22] at H
               have c22b0 : decide (x63_3 < (t632.length : Int)) = false := decide_eq_false c22
               clear c22
               by_cases c35 : 0 ≤ t633
               ·rw [if_pos c35] at H
                have c35b0 : decide (0 ≤ t633) = true := decide_eq_true c35
                clear c35
                by_cases c36 : t633 < (t632.length : Int)
                ·rw [if_pos c36] at H
                 have c36b0 : decide (t633 < (t632.length : Int)) = true := decide_eq_true c36
                 clear c36
                 replace H := Option.bind_eq_some_iff.mp H
                 obtain ⟨⟨t645, t646⟩, A370, H⟩ := H
                 replace H : (if t646 = true then (if x11_3 > 1 then (some true) else (some (t645 == (t636 != 0)))) else (some false)) = some r := H
                 have A37 := zK A370
                 clear A370
                 by_cases c38 : t646 = true
                 ·subst c38
                  have H1 : (if x11_3 > 1 then (some true) else (some (t645 == (t636 != 0)))) = some r := by rw [if_pos rfl] at H; exact H
                  clear H
                  have H := H1
                  clear H1
                  by_cases c39 : x11_3 > 1
                  ·rw [if_pos c39] at H
                   have c39b0 : decide (1 < x11_3) = true := decide_eq_true c39
                   clear c39
                   obtain rfl := Option.some.inj H
                   have p644 : 0 ≤ (t633 : Int) := zo
                   have q644 : t633 < (t632.length : Int) := zo
                   obtain ⟨ad644, e644, hx644_0, hx644_1, hx644_2, hx644_3⟩ := at_T47 (Kd.R_reads' HO_5.out).2.2 t633 p644 q644
                   obtain rfl : ad640 = ad644 := (by injection e644)
                   replace p644 := eq_true p644
                   replace q644 := eq_true q644
                   go_wp2_with (first | (go_at_call 34; (with_reducible refine (impl_DependsOn.calls k3 _ _ t632 ((rd_T47 t632 t633).f3) t645 true _ ?side1 ?side2 A37.out).mono ?_); (case side1 => repeat (first | exact (Kd.R_reads' HO_5.out).2.2 | (with_reducible refine Kd.C_alloc ?_ _) | (with_reducible refine Kd.C_drewN ?_ _) | (with_reducible refine Kd.C_drew ?_))); (case side2 => exact (Kd.R_reads' HO_5.out).2.1); rintro e w40 ⟨rfl, hb⟩; have n0_ := zK (Kd.R_below (by (with_reducible repeat (first | apply Kd.R_alloc | apply Kd.R_drewN | apply Kd.R_drew)); exact HO_5.out) hb); have n1_ := zK (Kd.R_below (by (with_reducible repeat (first | apply Kd.R_alloc | apply Kd.R_drewN | apply Kd.R_drew)); exact HO_61.out) hb); have n2_ := zK (zL (by repeat (first | (with_reducible first | exact HB.out | apply zA | apply zB | apply zC) | exact HB.out)) hb); clear HO_5; clear HO_61; clear HB; have HO_5 := n0_; have HO_61 := n1_; have HB := n2_; clear n0_ n1_ n2_; (try clear hb); (try clear hb2); (try clear hk); (try clear hi)))
                   repeat (go_quiet (first | (go_at_call 34; (with_reducible refine (impl_DependsOn.calls k3 _ _ t632 ((rd_T47 t632 t633).f3) t645 true _ ?side1 ?side2 A37.out).mono ?_); (case side1 => repeat (first | exact (Kd.R_reads' HO_5.out).2.2 | (with_reducible refine Kd.C_alloc ?_ _) | (with_reducible refine Kd.C_drewN ?_ _) | (with_reducible refine Kd.C_drew ?_))); (case side2 => exact (Kd.R_reads' HO_5.out).2.1); rintro e w40 ⟨rfl, hb⟩; have n0_ := zK (Kd.R_below (by (with_reducible repeat (first | apply Kd.R_alloc | apply Kd.R_drewN | apply Kd.R_drew)); exact HO_5.out) hb); have n1_ := zK (Kd.R_below (by (with_reducible repeat (first | apply Kd.R_alloc | apply Kd.R_drewN | apply Kd.R_drew)); exact HO_61.out) hb); have n2_ := zK (zL (by repeat (first | (with_reducible first | exact HB.out | apply zA | apply zB | apply zC) | exact HB.out)) hb); clear HO_5; clear HO_61; clear HB; have HO_5 := n0_; have HO_61 := n1_; have HB := n2_; clear n0_ n1_ n2_; (try clear hb); (try clear hb2); (try clear hk); (try clear hi))); try go_wp2_with (first | (go_at_call 34; (with_reducible refine (impl_DependsOn.calls k3 _ _ t632 ((rd_T47 t632 t633).f3) t645 true _ ?side1 ?side2 A37.out).mono ?_); (case side1 => repeat (first | exact (Kd.R_reads' HO_5.out).2.2 | (with_reducible refine Kd.C_alloc ?_ _) | (with_reducible refine Kd.C_drewN ?_ _) | (with_reducible refine Kd.C_drew ?_))); (case side2 => exact (Kd.R_reads' HO_5.out).2.1); rintro e w40 ⟨rfl, hb⟩; have n0_ := zK (Kd.R_below (by (with_reducible repeat (first | apply Kd.R_alloc | apply Kd.R_drewN | apply Kd.R_drew)); exact HO_5.out) hb); have n1_ := zK (Kd.R_below (by (with_reducible repeat (first | apply Kd.R_alloc | apply Kd.R_drewN | apply Kd.R_drew)); exact HO_61.out) hb); have n2_ := zK (zL (by repeat (first | (with_reducible first | exact HB.out | apply zA | apply zB | apply zC) | exact HB.out)) hb); clear HO_5; clear HO_61; clear HB; have HO_5 := n0_; have HO_61 := n1_; have HB := n2_; clear n0_ n1_ n2_; (try clear hb); (try clear hb2); (try clear hk); (try clear hi))))
                   go_ret
                   exact ⟨by first | rfl | (simp [errW_none, errW_some] <;> rfl) | (simp [*, errW_none, errW_some] <;> rfl), by repeat (first | (with_reducible first | exact HB.out | apply zA | apply zB | apply zC) | exact HB.out)⟩
                  ·rw [if_neg c39] at H
                   have c39b0 : decide (1 < x11_3) = false := decide_eq_false c39
                   clear c39
                   obtain rfl := Option.some.inj H
                   have p644 : 0 ≤ (t633 : Int) := zo
                   have q644 : t633 < (t632.length : Int) := zo
                   obtain ⟨ad644, e644, hx644_0, hx644_1, hx644_2, hx644_3⟩ := at_T47 (Kd.R_reads' HO_5.out).2.2 t633 p644 q644
                   obtain rfl : ad640 = ad644 := (by injection e644)
                   replace p644 := eq_true p644
                   replace q644 := eq_true q644
                   go_wp2_with (first | (go_at_call 34; (with_reducible refine (impl_DependsOn.calls k3 _ _ t632 ((rd_T47 t632 t633).f3) t645 true _ ?side1 ?side2 A37.out).mono ?_); (case side1 => repeat (first | exact (Kd.R_reads' HO_5.out).2.2 | (with_reducible refine Kd.C_alloc ?_ _) | (with_reducible refine Kd.C_drewN ?_ _) | (with_reducible refine Kd.C_drew ?_))); (case side2 => exact (Kd.R_reads' HO_5.out).2.1); rintro e w41 ⟨rfl, hb⟩; have n0_ := zK (Kd.R_below (by (with_reducible repeat (first | apply Kd.R_alloc | apply Kd.R_drewN | apply Kd.R_drew)); exact HO_5.out) hb); have n1_ := zK (Kd.R_below (by (with_reducible repeat (first | apply Kd.R_alloc | apply Kd.R_drewN | apply Kd.R_drew)); exact HO_61.out) hb); have n2_ := zK (zL (by repeat (first | (with_reducible first | exact HB.out | apply zA | apply zB | apply zC) | exact HB.out)) hb); clear HO_5; clear HO_61; clear HB; have HO_5 := n0_; have HO_61 := n1_; have HB := n2_; clear n0_ n1_ n2_; (try clear hb); (try clear hb2); (try clear hk); (try clear hi)))
                   repeat (go_quiet (first | (go_at_call 34; (with_reducible refine (impl_DependsOn.calls k3 _ _ t632 ((rd_T47 t632 t633).f3) t645 true _ ?side1 ?side2 A37.out).mono ?_); (case side1 => repeat (first | exact (Kd.R_reads' HO_5.out).2.2 | (with_reducible refine Kd.C_alloc ?_ _) | (with_reducible refine Kd.C_drewN ?_ _) | (with_reducible refine Kd.C_drew ?_))); (case side2 => exact (Kd.R_reads' HO_5.out).2.1); rintro e w41 ⟨rfl, hb⟩; have n0_ := zK (Kd.R_below (by (with_reducible repeat (first | apply Kd.R_alloc | apply Kd.R_drewN | apply Kd.R_drew)); exact HO_5.out) hb); have n1_ := zK (Kd.R_below (by (with_reducible repeat (first | apply Kd.R_alloc | apply Kd.R_drewN | apply Kd.R_drew)); exact HO_61.out) hb); have n2_ := zK (zL (by repeat (first | (with_reducible first | exact HB.out | apply zA | apply zB | apply zC) | exact HB.out)) hb); clear HO_5; clear HO_61; clear HB; have HO_5 := n0_; have HO_61 := n1_; have HB := n2_; clear n0_ n1_ n2_; (try clear hb); (try clear hb2); (try clear hk); (try clear hi))); try go_wp2_with (first | (go_at_call 34; (with_reducible refine (impl_DependsOn.calls k3 _ _ t632 ((rd_T47 t632 t633).f3) t645 true _ ?side1 ?side2 A37.out).mono ?_); (case side1 => repeat (first | exact (Kd.R_reads' HO_5.out).2.2 | (with_reducible refine Kd.C_alloc ?_ _) | (with_reducible refine Kd.C_drewN ?_ _) | (with_reducible refine Kd.C_drew ?_))); (case side2 => exact (Kd.R_reads' HO_5.out).2.1); rintro e w41 ⟨rfl, hb⟩; have n0_ := zK (Kd.R_below (by (with_reducible repeat (first | apply Kd.R_alloc | apply Kd.R_drewN | apply Kd.R_drew)); exact HO_5.out) hb); have n1_ := zK (Kd.R_below (by (with_reducible repeat (first | apply Kd.R_alloc | apply Kd.R_drewN | apply Kd.R_drew)); exact HO_61.out) hb); have n2_ := zK (zL (by repeat (first | (with_reducible first | exact HB.out | apply zA | apply zB | apply zC) | exact HB.out)) hb); clear HO_5; clear HO_61; clear HB; have HO_5 := n0_; have HO_61 := n1_; have HB := n2_; clear n0_ n1_ n2_; (try clear hb); (try clear hb2); (try clear hk); (try clear hi))))
                   go_ret
                   exact ⟨by first | rfl | (simp [errW_none, errW_some] <;> rfl) | (simp [*, errW_none, errW_some] <;> rfl), by repeat (first | (with_reducible first | exact HB.out | apply zA | apply zB | apply zC) | exact HB.out)⟩
                 ·replace c38 := Bool.eq_false_iff.mpr c38
                  subst c38
                  have H1 : (some false) = some r := by rw [if_neg (show ¬ (false = true) by decide)] at H; exact H
                  clear H
                  have H := H1
                  clear H1
                  exact absurd ((Option.some.inj H).trans hr) (by decide)
                ·rw [if_neg c36] at H
                 exact absurd H (by simp)
               ·rw [if_neg c35] at H
                exact absurd H (by simp)
           ·rw [if_neg c21] at H
            have c21b0 : (((rd_T47 t632 t633).f0).toList == ([105, 110] : List UInt8)) = false := beq_eq_false_iff_ne.mpr c21
            have c21b1 : (((rd_T47 t632 t633).f0).toList != ([105, 110] : List UInt8)) = true := bne_iff_ne.mpr c21
            obtain rfl := Option.some.inj H
            have p640 : 0 ≤ (t633 : Int) := zo
            have q640 : t633 < (t632.length : Int) := zo
            obtain ⟨ad640, e640, hx640_0, hx640_1, hx640_2, hx640_3⟩ := at_T47 (Kd.R_reads' HO_5.out).2.2 t633 p640 q640
            cases e640
            replace p640 := eq_true p640
            replace q640 := eq_true q640
            go_wp2
            repeat (go_quiet (fail); try go_wp2)
            go_ret
            exact ⟨by first | rfl | (simp [errW_none, errW_some] <;> rfl) | (simp [*, errW_none, errW_some] <;> rfl), by repeat (first | (with_reducible first | exact HB.out | apply zA | apply zB | apply zC) | exact HB.out)⟩
          ·rw [if_neg c20] at H
           exact absurd H (by simp)
         ·rw [if_neg c19] at H
          exact absurd H (by simp)
     ·replace c15 := Bool.eq_false_iff.mpr c15
      subst c15
      have H1 : (some true) = some r := by rw [if_neg (show ¬ (false = true) by decide)] at H; exact H
      clear H
      have H := H1
      clear H1
      obtain rfl := Option.some.inj H
      go_wp2
      repeat (go_quiet (fail); try go_wp2)
      go_ret
      exact ⟨by first | rfl | (simp [errW_none, errW_some] <;> rfl) | (simp [*, errW_none, errW_some] <;> rfl), by repeat (first | (with_reducible first | exact HB.out | apply zA | apply zB | apply zC) | exact HB.out)⟩

/-- THE ONE PURE STATEMENT of laws_FnAskedBits: yours. -/
def laws_FnAskedBits.Pure : Prop := ∀ (l0 : List Int) (l1 : List Int), l0.length ≤ maxLen → l0.length * 1 ≤ 140737488351232 → (∀ x ∈ l0, (Lit.int .u8 x).wf = true) → l1.length ≤ maxLen → l1.length * 1 ≤ 140737488351232 → (∀ x ∈ l1, (Lit.int .u8 x).wf = true) → ∃ k, laws_FnAskedBits.f k l0 l1 = some true
theorem laws_FnAskedBits.walk (P : laws_FnAskedBits.Pure) (a0 : Option Addr) (len0 cap0 : Nat) (z0 : List Int) (a1 : Option Addr) (len1 cap1 : Nat) (z1 : List Int) (w : World) (w0 : (a0 = none ∧ len0 = 0 ∧ cap0 = 0 ∧ z0 = []) ∨ ∃ x, a0 = some x ∧ len0 ≤ cap0 ∧ cap0 ≤ maxLen ∧ z0.length = cap0 ∧ (∀ i, i < z0.length → w.cell? (x.add i) = some (.int .u8 (z0.getD i 0))) ∧ ∀ n ∈ z0, (Lit.int .u8 n).wf = true) (y0 : len0 * 1 ≤ 140737488351232) (w1 : (a1 = none ∧ len1 = 0 ∧ cap1 = 0 ∧ z1 = []) ∨ ∃ x, a1 = some x ∧ len1 ≤ cap1 ∧ cap1 ≤ maxLen ∧ z1.length = cap1 ∧ (∀ i, i < z1.length → w.cell? (x.add i) = some (.int .u8 (z1.getD i 0))) ∧ ∀ n ∈ z1, (Lit.int .u8 n).wf = true) (y1 : len1 * 1 ≤ 140737488351232) :
  Calls Try.prog 5 #[.slice a0 len0 cap0, .slice a1 len1 cap1] w fun e w' => e = .returned (.bool true) ∧ Below w.heap.size w w' := by
 obtain ⟨l0, rfl, hr0, hm0, hw0, hc0⟩ := ReadsInt.ofRowC w0
 obtain ⟨l1, rfl, hr1, hm1, hw1, hc1⟩ := ReadsInt.ofRowC w1
 obtain ⟨k, h⟩ := P l0 l1 hm0 y0 hw0 hm1 y1 hw1
 refine (laws_FnAskedBits.calls k _ _ l0 _ _ l1 true w (Kd.C_of_reads (d := (0 : Int)) (h1 := fun _ => rfl) hr0) hc0 (Kd.C_of_reads (d := (0 : Int)) (h1 := fun _ => rfl) hr1) hc1 h rfl).mono ?_
 rintro e w' ⟨rfl, hd⟩
 exact ⟨rfl, hd⟩

end Go.Proofs.Ytlcplhcccgbmnaa.A
