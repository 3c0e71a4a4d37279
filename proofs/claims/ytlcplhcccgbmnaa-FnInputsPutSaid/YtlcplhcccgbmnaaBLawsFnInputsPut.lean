/- Contracts: laws_FnInputsPut. -/
import Derived.Test.YtlcplhcccgbmnaaBK
import Derived.Test.YtlcplhcccgbmnaaBLawsBig
import Derived.Test.YtlcplhcccgbmnaaBSpecL1CurAnyExpr
import Derived.Test.YtlcplhcccgbmnaaBImplNodeOf
import Derived.Test.YtlcplhcccgbmnaaBImplNodeRenamed
import Derived.Test.YtlcplhcccgbmnaaBSpecPutInput
import Derived.Test.YtlcplhcccgbmnaaBImplIsTree
namespace Go.Proofs.Ytlcplhcccgbmnaa.B
open Go.RowKit Go.Proofs.YtlcplhcccgbmnaaW.PrintWords Go.Proofs.YtlcplhcccgbmnaaW.PrintLast Go.Proofs.YtlcplhcccgbmnaaW.PrintMore
attribute [local go_sem] max2_int min2_int max_two min_two max_three min_three max_four min_four   -- for this text's walks alone
set_option linter.unusedVariables false
set_option linter.unusedSimpArgs false

/-! ### laws_FnInputsPut: function 3 -/
mutual
def laws_FnInputsPut.j0 : Nat → List Int → List Int → List (S47) → Int → List (S47) → List (S47) → Bool → Bool → Option (Bool)
 | 0, _, _, _, _, _, _, _, _ => none
 | k + 1, x0, x1, x5, x6, x7, x8, x11, x65 => if x65 = true then (some false) else ((spec_DrawUsesOf.f k x1).bind fun t500 => ((impl_UsesOf.f k t500).bind fun bt503 => ((spec_UsesOf.f k t500).bind fun bt507 => ((impl_IsTree.f k t500).bind fun bt511 => ((spec_IsTree.f k t500).bind fun bt513 => (if (bt503.2 != bt507.2) = true then (laws_FnInputsPut.j1 k x0 x1 x5 x6 x7 x8 x11 bt503.1 bt511.1 true) else ((laws_pSame.f k bt503.1 bt507.1).bind fun t515 => (if t515 = true then (if (bt511.2 != bt513.2) = true then (laws_FnInputsPut.j1 k x0 x1 x5 x6 x7 x8 x11 bt503.1 bt511.1 true) else (if (bt511.1 != bt513.1) = true then (laws_FnInputsPut.j1 k x0 x1 x5 x6 x7 x8 x11 bt503.1 bt511.1 true) else (laws_FnInputsPut.j1 k x0 x1 x5 x6 x7 x8 x11 bt503.1 bt511.1 (bt503.2 != bt511.2)))) else (laws_FnInputsPut.j1 k x0 x1 x5 x6 x7 x8 x11 bt503.1 bt511.1 true)))))))))
def laws_FnInputsPut.j1 : Nat → List Int → List Int → List (S47) → Int → List (S47) → List (S47) → Bool → List Int → Bool → Bool → Option (Bool)
 | 0, _, _, _, _, _, _, _, _, _, _ => none
 | k + 1, x0, x1, x5, x6, x7, x8, x11, x13, x17, x111 => if x111 = true then (some false) else (laws_FnInputsPut.l0 k x0 x1 x5 x6 x7 x8 x11 x13 x17 x13 (x13.length : Int) 0)
def laws_FnInputsPut.l0 : Nat → List Int → List Int → List (S47) → Int → List (S47) → List (S47) → Bool → List Int → Bool → List Int → Int → Int → Option (Bool)
 | 0, _, _, _, _, _, _, _, _, _, _, _, _ => none
 | k + 1, x0, x1, x5, x6, x7, x8, x11, x13, x17, x112, x113, x114 => if x114 < x113 then (if 0 ≤ x114 then (if x114 < (x112.length : Int) then (if x114 < (wrap64 ((x13.length : Int) - 1)) then (if (rd x112 x114) = 0 then (some false) else (if x17 = true then (if (rd x112 x114) > 1 then (some false) else (if x114 = (wrap64 ((x13.length : Int) - 1)) then (some false) else (laws_FnInputsPut.l0 k x0 x1 x5 x6 x7 x8 x11 x13 x17 x112 x113 (wrap64 (x114 + 1))))) else (if x114 = (wrap64 ((x13.length : Int) - 1)) then (some false) else (laws_FnInputsPut.l0 k x0 x1 x5 x6 x7 x8 x11 x13 x17 x112 x113 (wrap64 (x114 + 1)))))) else (if x17 = true then (if (rd x112 x114) > 1 then (some false) else (if x114 = (wrap64 ((x13.length : Int) - 1)) then (if (rd x112 x114) = 0 then (laws_FnInputsPut.l0 k x0 x1 x5 x6 x7 x8 x11 x13 x17 x112 x113 (wrap64 (x114 + 1))) else (some false)) else (laws_FnInputsPut.l0 k x0 x1 x5 x6 x7 x8 x11 x13 x17 x112 x113 (wrap64 (x114 + 1))))) else (if x114 = (wrap64 ((x13.length : Int) - 1)) then (if (rd x112 x114) = 0 then (laws_FnInputsPut.l0 k x0 x1 x5 x6 x7 x8 x11 x13 x17 x112 x113 (wrap64 (x114 + 1))) else (some false)) else (laws_FnInputsPut.l0 k x0 x1 x5 x6 x7 x8 x11 x13 x17 x112 x113 (wrap64 (x114 + 1)))))) else (none)) else (none)) else (if x11 = true then (laws_FnInputsPut.l1 k x0 x1 x5 x6 x7 x8 0) else (some true))
def laws_FnInputsPut.l1 : Nat → List Int → List Int → List (S47) → Int → List (S47) → List (S47) → Int → Option (Bool)
 | 0, _, _, _, _, _, _, _ => none
 | k + 1, x0, x1, x5, x6, x7, x8, x23 => if x23 < 64 then ((impl_EvalExpr.f k x7 (Int.tmod (wrap64 ((wrap64 (x23 * 37)) + (x0.length : Int))) 64) (Int.tmod (wrap64 ((wrap64 (x23 * 11)) + (x1.length : Int))) 64)).bind fun bt518 => ((impl_EvalExpr.f k x8 (Int.tmod (wrap64 ((wrap64 (x23 * 37)) + (x0.length : Int))) 64) (Int.tmod (wrap64 ((wrap64 (x23 * 11)) + (x1.length : Int))) 64)).bind fun bt520 => (if x6 = 1 then ((impl_EvalExpr.f k x5 (Int.tmod (wrap64 ((wrap64 (x23 * 37)) + (x0.length : Int))) 64) bt518.1).bind fun bt522 => (if bt518.2 = true then (if bt520.2 = true then (if bt522.2 = true then (if bt520.1 = bt522.1 then (laws_FnInputsPut.l1 k x0 x1 x5 x6 x7 x8 (wrap64 (x23 + 1))) else (some false)) else (some false)) else (some false)) else (some false))) else ((impl_EvalExpr.f k x5 bt518.1 (Int.tmod (wrap64 ((wrap64 (x23 * 11)) + (x1.length : Int))) 64)).bind fun bt524 => (if bt518.2 = true then (if bt520.2 = true then (if bt524.2 = true then (if bt520.1 = bt524.1 then (laws_FnInputsPut.l1 k x0 x1 x5 x6 x7 x8 (wrap64 (x23 + 1))) else (some false)) else (some false)) else (some false)) else (some false)))))) else ((impl_IsExpr.f k x8).bind fun t517 => (some t517))
end
def laws_FnInputsPut.f (k : Nat) (l0 : List Int) (l1 : List Int) : Option (Bool) := (laws_big.f l0 l1).bind fun t483 => (if t483 = true then (some true) else ((spec_DrawPutInput.f k l0).bind fun bt484 => ((impl_PutInput.f k bt484.1 bt484.2.1 bt484.2.2).bind fun bt491 => ((spec_PutInput.f k bt484.1 bt484.2.1 bt484.2.2).bind fun bt495 => (if (bt491.2 != bt495.2) = true then (laws_FnInputsPut.j0 k l0 l1 bt484.1 bt484.2.1 bt484.2.2 bt491.1 bt495.2 true) else ((laws_pSameExpr.f k bt491.1 bt495.1).bind fun t499 => (laws_FnInputsPut.j0 k l0 l1 bt484.1 bt484.2.1 bt484.2.2 bt491.1 bt495.2 (!t499))))))))
theorem laws_FnInputsPut.mono_l : ∀ k, (∀ y0 y1 y2 y3 y4 y5 y6 y7, LeO (laws_FnInputsPut.j0 k y0 y1 y2 y3 y4 y5 y6 y7) (laws_FnInputsPut.j0 (k + 1) y0 y1 y2 y3 y4 y5 y6 y7)) ∧ (∀ y0 y1 y2 y3 y4 y5 y6 y7 y8 y9, LeO (laws_FnInputsPut.j1 k y0 y1 y2 y3 y4 y5 y6 y7 y8 y9) (laws_FnInputsPut.j1 (k + 1) y0 y1 y2 y3 y4 y5 y6 y7 y8 y9)) ∧ (∀ y0 y1 y2 y3 y4 y5 y6 y7 y8 y9 y10 y11, LeO (laws_FnInputsPut.l0 k y0 y1 y2 y3 y4 y5 y6 y7 y8 y9 y10 y11) (laws_FnInputsPut.l0 (k + 1) y0 y1 y2 y3 y4 y5 y6 y7 y8 y9 y10 y11)) ∧ (∀ y0 y1 y2 y3 y4 y5 y6, LeO (laws_FnInputsPut.l1 k y0 y1 y2 y3 y4 y5 y6) (laws_FnInputsPut.l1 (k + 1) y0 y1 y2 y3 y4 y5 y6))
 | 0 => ⟨fun _ _ _ _ _ _ _ _ r h => by simp [laws_FnInputsPut.j0] at h, fun _ _ _ _ _ _ _ _ _ _ r h => by simp [laws_FnInputsPut.j1] at h, fun _ _ _ _ _ _ _ _ _ _ _ _ r h => by simp [laws_FnInputsPut.l0] at h, fun _ _ _ _ _ _ _ r h => by simp [laws_FnInputsPut.l1] at h⟩
 | k + 1 => by
  obtain ⟨ih0, ih1, ih2, ih3⟩ := laws_FnInputsPut.mono_l k
  refine ⟨?_, ?_, ?_, ?_⟩
  ·intro y0 y1 y2 y3 y4 y5 y6 y7
   unfold laws_FnInputsPut.j0
   repeat' first
   | (with_reducible exact ih0 _ _ _ _ _ _ _ _)
   | (with_reducible exact ih1 _ _ _ _ _ _ _ _ _ _)
   | (with_reducible exact ih2 _ _ _ _ _ _ _ _ _ _ _ _)
   | (with_reducible exact ih3 _ _ _ _ _ _ _)
   | (with_reducible exact impl_EvalExpr.mono _ _ _ _)
   | (with_reducible exact impl_IsExpr.mono _ _)
   | (with_reducible exact impl_IsTree.mono _ _)
   | (with_reducible exact impl_PutInput.mono _ _ _ _)
   | (with_reducible exact impl_UsesOf.mono _ _)
   | (with_reducible exact laws_pSame.mono _ _ _)
   | (with_reducible exact laws_pSameExpr.mono _ _ _)
   | (with_reducible exact spec_DrawPutInput.mono _ _)
   | (with_reducible exact spec_DrawUsesOf.mono _ _)
   | (with_reducible exact spec_IsTree.mono _ _)
   | (with_reducible exact spec_PutInput.mono _ _ _ _)
   | (with_reducible exact spec_UsesOf.mono _ _)
   | (with_reducible exact LeO.refl _)
   | (with_reducible exact LeO.none _)
   | (with_reducible refine LeO.ite ?_ ?_)
   | (with_reducible refine LeO.bind ?_ (fun _ => ?_))
   | exact ih0 _ _ _ _ _ _ _ _
   | exact ih1 _ _ _ _ _ _ _ _ _ _
   | exact ih2 _ _ _ _ _ _ _ _ _ _ _ _
   | exact ih3 _ _ _ _ _ _ _
   | exact impl_EvalExpr.mono _ _ _ _
   | exact impl_IsExpr.mono _ _
   | exact impl_IsTree.mono _ _
   | exact impl_PutInput.mono _ _ _ _
   | exact impl_UsesOf.mono _ _
   | exact laws_pSame.mono _ _ _
   | exact laws_pSameExpr.mono _ _ _
   | exact spec_DrawPutInput.mono _ _
   | exact spec_DrawUsesOf.mono _ _
   | exact spec_IsTree.mono _ _
   | exact spec_PutInput.mono _ _ _ _
   | exact spec_UsesOf.mono _ _
   | exact LeO.none _
   | refine LeO.ite ?_ ?_
   | refine LeO.bind ?_ (fun _ => ?_)
  ·intro y0 y1 y2 y3 y4 y5 y6 y7 y8 y9
   unfold laws_FnInputsPut.j1
   repeat' first
   | (with_reducible exact ih0 _ _ _ _ _ _ _ _)
   | (with_reducible exact ih1 _ _ _ _ _ _ _ _ _ _)
   | (with_reducible exact ih2 _ _ _ _ _ _ _ _ _ _ _ _)
   | (with_reducible exact ih3 _ _ _ _ _ _ _)
   | (with_reducible exact impl_EvalExpr.mono _ _ _ _)
   | (with_reducible exact impl_IsExpr.mono _ _)
   | (with_reducible exact impl_IsTree.mono _ _)
   | (with_reducible exact impl_PutInput.mono _ _ _ _)
   | (with_reducible exact impl_UsesOf.mono _ _)
   | (with_reducible exact laws_pSame.mono _ _ _)
   | (with_reducible exact laws_pSameExpr.mono _ _ _)
   | (with_reducible exact spec_DrawPutInput.mono _ _)
   | (with_reducible exact spec_DrawUsesOf.mono _ _)
   | (with_reducible exact spec_IsTree.mono _ _)
   | (with_reducible exact spec_PutInput.mono _ _ _ _)
   | (with_reducible exact spec_UsesOf.mono _ _)
   | (with_reducible exact LeO.refl _)
   | (with_reducible exact LeO.none _)
   | (with_reducible refine LeO.ite ?_ ?_)
   | (with_reducible refine LeO.bind ?_ (fun _ => ?_))
   | exact ih0 _ _ _ _ _ _ _ _
   | exact ih1 _ _ _ _ _ _ _ _ _ _
   | exact ih2 _ _ _ _ _ _ _ _ _ _ _ _
   | exact ih3 _ _ _ _ _ _ _
   | exact impl_EvalExpr.mono _ _ _ _
   | exact impl_IsExpr.mono _ _
   | exact impl_IsTree.mono _ _
   | exact impl_PutInput.mono _ _ _ _
   | exact impl_UsesOf.mono _ _
   | exact laws_pSame.mono _ _ _
   | exact laws_pSameExpr.mono _ _ _
   | exact spec_DrawPutInput.mono _ _
   | exact spec_DrawUsesOf.mono _ _
   | exact spec_IsTree.mono _ _
   | exact spec_PutInput.mono _ _ _ _
   | exact spec_UsesOf.mono _ _
   | exact LeO.none _
   | refine LeO.ite ?_ ?_
   | refine LeO.bind ?_ (fun _ => ?_)
  ·intro y0 y1 y2 y3 y4 y5 y6 y7 y8 y9 y10 y11
   unfold laws_FnInputsPut.l0
   repeat' first
   | (with_reducible exact ih0 _ _ _ _ _ _ _ _)
   | (with_reducible exact ih1 _ _ _ _ _ _ _ _ _ _)
   | (with_reducible exact ih2 _ _ _ _ _ _ _ _ _ _ _ _)
   | (with_reducible exact ih3 _ _ _ _ _ _ _)
   | (with_reducible exact impl_EvalExpr.mono _ _ _ _)
   | (with_reducible exact impl_IsExpr.mono _ _)
   | (with_reducible exact impl_IsTree.mono _ _)
   | (with_reducible exact impl_PutInput.mono _ _ _ _)
   | (with_reducible exact impl_UsesOf.mono _ _)
   | (with_reducible exact laws_pSame.mono _ _ _)
   | (with_reducible exact laws_pSameExpr.mono _ _ _)
   | (with_reducible exact spec_DrawPutInput.mono _ _)
   | (with_reducible exact spec_DrawUsesOf.mono _ _)
   | (with_reducible exact spec_IsTree.mono _ _)
   | (with_reducible exact spec_PutInput.mono _ _ _ _)
   | (with_reducible exact spec_UsesOf.mono _ _)
   | (with_reducible exact LeO.refl _)
   | (with_reducible exact LeO.none _)
   | (with_reducible refine LeO.ite ?_ ?_)
   | (with_reducible refine LeO.bind ?_ (fun _ => ?_))
   | exact ih0 _ _ _ _ _ _ _ _
   | exact ih1 _ _ _ _ _ _ _ _ _ _
   | exact ih2 _ _ _ _ _ _ _ _ _ _ _ _
   | exact ih3 _ _ _ _ _ _ _
   | exact impl_EvalExpr.mono _ _ _ _
   | exact impl_IsExpr.mono _ _
   | exact impl_IsTree.mono _ _
   | exact impl_PutInput.mono _ _ _ _
   | exact impl_UsesOf.mono _ _
   | exact laws_pSame.mono _ _ _
   | exact laws_pSameExpr.mono _ _ _
   | exact spec_DrawPutInput.mono _ _
   | exact spec_DrawUsesOf.mono _ _
   | exact spec_IsTree.mono _ _
   | exact spec_PutInput.mono _ _ _ _
   | exact spec_UsesOf.mono _ _
   | exact LeO.none _
   | refine LeO.ite ?_ ?_
   | refine LeO.bind ?_ (fun _ => ?_)
  ·intro y0 y1 y2 y3 y4 y5 y6
   unfold laws_FnInputsPut.l1
   repeat' first
   | (with_reducible exact ih0 _ _ _ _ _ _ _ _)
   | (with_reducible exact ih1 _ _ _ _ _ _ _ _ _ _)
   | (with_reducible exact ih2 _ _ _ _ _ _ _ _ _ _ _ _)
   | (with_reducible exact ih3 _ _ _ _ _ _ _)
   | (with_reducible exact impl_EvalExpr.mono _ _ _ _)
   | (with_reducible exact impl_IsExpr.mono _ _)
   | (with_reducible exact impl_IsTree.mono _ _)
   | (with_reducible exact impl_PutInput.mono _ _ _ _)
   | (with_reducible exact impl_UsesOf.mono _ _)
   | (with_reducible exact laws_pSame.mono _ _ _)
   | (with_reducible exact laws_pSameExpr.mono _ _ _)
   | (with_reducible exact spec_DrawPutInput.mono _ _)
   | (with_reducible exact spec_DrawUsesOf.mono _ _)
   | (with_reducible exact spec_IsTree.mono _ _)
   | (with_reducible exact spec_PutInput.mono _ _ _ _)
   | (with_reducible exact spec_UsesOf.mono _ _)
   | (with_reducible exact LeO.refl _)
   | (with_reducible exact LeO.none _)
   | (with_reducible refine LeO.ite ?_ ?_)
   | (with_reducible refine LeO.bind ?_ (fun _ => ?_))
   | exact ih0 _ _ _ _ _ _ _ _
   | exact ih1 _ _ _ _ _ _ _ _ _ _
   | exact ih2 _ _ _ _ _ _ _ _ _ _ _ _
   | exact ih3 _ _ _ _ _ _ _
   | exact impl_EvalExpr.mono _ _ _ _
   | exact impl_IsExpr.mono _ _
   | exact impl_IsTree.mono _ _
   | exact impl_PutInput.mono _ _ _ _
   | exact impl_UsesOf.mono _ _
   | exact laws_pSame.mono _ _ _
   | exact laws_pSameExpr.mono _ _ _
   | exact spec_DrawPutInput.mono _ _
   | exact spec_DrawUsesOf.mono _ _
   | exact spec_IsTree.mono _ _
   | exact spec_PutInput.mono _ _ _ _
   | exact spec_UsesOf.mono _ _
   | exact LeO.none _
   | refine LeO.ite ?_ ?_
   | refine LeO.bind ?_ (fun _ => ?_)
theorem laws_FnInputsPut.mono : ∀ a0 a1 k, LeO (laws_FnInputsPut.f k a0 a1) (laws_FnInputsPut.f (k + 1) a0 a1) := by
 intro a0 a1 k
 obtain ⟨ih0, ih1, ih2, ih3⟩ := laws_FnInputsPut.mono_l k
 unfold laws_FnInputsPut.f
 repeat' first
   | (with_reducible exact ih0 _ _ _ _ _ _ _ _)
   | (with_reducible exact ih1 _ _ _ _ _ _ _ _ _ _)
   | (with_reducible exact ih2 _ _ _ _ _ _ _ _ _ _ _ _)
   | (with_reducible exact ih3 _ _ _ _ _ _ _)
   | (with_reducible exact impl_EvalExpr.mono _ _ _ _)
   | (with_reducible exact impl_IsExpr.mono _ _)
   | (with_reducible exact impl_IsTree.mono _ _)
   | (with_reducible exact impl_PutInput.mono _ _ _ _)
   | (with_reducible exact impl_UsesOf.mono _ _)
   | (with_reducible exact laws_pSame.mono _ _ _)
   | (with_reducible exact laws_pSameExpr.mono _ _ _)
   | (with_reducible exact spec_DrawPutInput.mono _ _)
   | (with_reducible exact spec_DrawUsesOf.mono _ _)
   | (with_reducible exact spec_IsTree.mono _ _)
   | (with_reducible exact spec_PutInput.mono _ _ _ _)
   | (with_reducible exact spec_UsesOf.mono _ _)
   | (with_reducible exact LeO.refl _)
   | (with_reducible exact LeO.none _)
   | (with_reducible refine LeO.ite ?_ ?_)
   | (with_reducible refine LeO.bind ?_ (fun _ => ?_))
   | exact ih0 _ _ _ _ _ _ _ _
   | exact ih1 _ _ _ _ _ _ _ _ _ _
   | exact ih2 _ _ _ _ _ _ _ _ _ _ _ _
   | exact ih3 _ _ _ _ _ _ _
   | exact impl_EvalExpr.mono _ _ _ _
   | exact impl_IsExpr.mono _ _
   | exact impl_IsTree.mono _ _
   | exact impl_PutInput.mono _ _ _ _
   | exact impl_UsesOf.mono _ _
   | exact laws_pSame.mono _ _ _
   | exact laws_pSameExpr.mono _ _ _
   | exact spec_DrawPutInput.mono _ _
   | exact spec_DrawUsesOf.mono _ _
   | exact spec_IsTree.mono _ _
   | exact spec_PutInput.mono _ _ _ _
   | exact spec_UsesOf.mono _ _
   | exact LeO.none _
   | refine LeO.ite ?_ ?_
   | refine LeO.bind ?_ (fun _ => ?_)
set_option maxHeartbeats 8000000 in
set_option maxRecDepth 100000 in
theorem laws_FnInputsPut.calls (k : Nat) (A0 : Option Addr) (c0 : Nat) (l0 : List Int) (A1 : Option Addr) (c1 : Nat) (l1 : List Int) (r : Bool) (w : World) (hr0 : Kd.C (Kd.int .u8) w A0 l0.length l0) (hc0 : l0.length ≤ c0) (hr1 : Kd.C (Kd.int .u8) w A1 l1.length l1) (hc1 : l1.length ≤ c1) (h : laws_FnInputsPut.f k l0 l1 = some r) (hr : r = true) :
  Calls Try.prog 3 #[.slice A0 l0.length c0, .slice A1 l1.length c1] w fun e w' => e = .returned (.bool r) ∧ Below w.heap.size w w' := by
 have HR0 := zK hr0
 have HC0 := zK hc0
 clear hr0 hc0
 have HR1 := zK hr1
 have HC1 := zK hc1
 clear hr1 hc1
 have HB := zK (Below.refl w.heap.size w)
 have H : ((laws_big.f l0 l1).bind fun t483 => (if t483 = true then (some true) else ((spec_DrawPutInput.f k l0).bind fun bt484 => ((impl_PutInput.f k bt484.1 bt484.2.1 bt484.2.2).bind fun bt491 => ((spec_PutInput.f k bt484.1 bt484.2.1 bt484.2.2).bind fun bt495 => (if (bt491.2 != bt495.2) = true then (laws_FnInputsPut.j0 k l0 l1 bt484.1 bt484.2.1 bt484.2.2 bt491.1 bt495.2 true) else ((laws_pSameExpr.f k bt491.1 bt495.1).bind fun t499 => (laws_FnInputsPut.j0 k l0 l1 bt484.1 bt484.2.1 bt484.2.2 bt491.1 bt495.2 (!t499))))))))) = some r := h
 clear h
 replace H := Option.bind_eq_some_iff.mp H
 obtain ⟨t483, A30, H⟩ := H
 replace H : (if t483 = true then (some true) else ((spec_DrawPutInput.f k l0).bind fun bt484 => ((impl_PutInput.f k bt484.1 bt484.2.1 bt484.2.2).bind fun bt491 => ((spec_PutInput.f k bt484.1 bt484.2.1 bt484.2.2).bind fun bt495 => (if (bt491.2 != bt495.2) = true then (laws_FnInputsPut.j0 k l0 l1 bt484.1 bt484.2.1 bt484.2.2 bt491.1 bt495.2 true) else ((laws_pSameExpr.f k bt491.1 bt495.1).bind fun t499 => (laws_FnInputsPut.j0 k l0 l1 bt484.1 bt484.2.1 bt484.2.2 bt491.1 bt495.2 (!t499)))))))) = some r := H
 have A3 := zK A30
 clear A30
 by_cases c4 : t483 = true
 ·subst c4
  have H1 : (some true) = some r := by rw [if_pos rfl] at H; exact H
  clear H
  have H := H1
  clear H1
  obtain rfl := Option.some.inj H
  go_enter Try.func3, Try.ntmps3
  go_wp2_with (first | ((with_reducible refine gate_callee (f := 8) rfl ?_); refine goesL_ (some 36) rfl rfl Try.func8 (by kernel_rfl) rfl #[.slice A0 l0.length c0, .slice A1 l1.length c1] rfl (by (try simp only [z6, z7, z8]); first | done | rfl | (simp only [z4, z5]; rfl)) ?_; (with_reducible refine (laws_big.calls _ _ l0 _ _ l1 true _ ?side1 ?side2 ?side3 ?side4 A3.out).mono ?_); (case side1 => repeat (first | exact HR0.out | (with_reducible refine Kd.C_alloc ?_ _) | (with_reducible refine Kd.C_drewN ?_ _) | (with_reducible refine Kd.C_drew ?_))); (case side2 => exact HC0.out); (case side3 => repeat (first | exact HR1.out | (with_reducible refine Kd.C_alloc ?_ _) | (with_reducible refine Kd.C_drewN ?_ _) | (with_reducible refine Kd.C_drew ?_))); (case side4 => exact HC1.out); rintro e w' ⟨rfl, ⟨nd, rfl⟩⟩; refine ⟨_, rfl, ?_⟩))
  go_ret
  exact ⟨by first | rfl | (simp [errW_none, errW_some] <;> rfl) | (simp [*, errW_none, errW_some] <;> rfl), by repeat (first | (with_reducible first | exact HB.out | apply zA | apply zB | apply zC) | exact HB.out)⟩
 ·replace c4 := Bool.eq_false_iff.mpr c4
  subst c4
  have H1 : ((spec_DrawPutInput.f k l0).bind fun bt484 => ((impl_PutInput.f k bt484.1 bt484.2.1 bt484.2.2).bind fun bt491 => ((spec_PutInput.f k bt484.1 bt484.2.1 bt484.2.2).bind fun bt495 => (if (bt491.2 != bt495.2) = true then (laws_FnInputsPut.j0 k l0 l1 bt484.1 bt484.2.1 bt484.2.2 bt491.1 bt495.2 true) else ((laws_pSameExpr.f k bt491.1 bt495.1).bind fun t499 => (laws_FnInputsPut.j0 k l0 l1 bt484.1 bt484.2.1 bt484.2.2 bt491.1 bt495.2 (!t499))))))) = some r := by rw [if_neg (show ¬ (false = true) by decide)] at H; exact H
  clear H
  have H := H1
  clear H1
  replace H := Option.bind_eq_some_iff.mp H
  obtain ⟨⟨t484, t485, t486⟩, A50, H⟩ := H
  replace H : ((impl_PutInput.f k t484 t485 t486).bind fun bt491 => ((spec_PutInput.f k t484 t485 t486).bind fun bt495 => (if (bt491.2 != bt495.2) = true then (laws_FnInputsPut.j0 k l0 l1 t484 t485 t486 bt491.1 bt495.2 true) else ((laws_pSameExpr.f k bt491.1 bt495.1).bind fun t499 => (laws_FnInputsPut.j0 k l0 l1 t484 t485 t486 bt491.1 bt495.2 (!t499)))))) = some r := H
  have A5 := zK A50
  clear A50
  replace H := Option.bind_eq_some_iff.mp H
  obtain ⟨⟨t491, t492⟩, A60, H⟩ := H
  replace H : ((spec_PutInput.f k t484 t485 t486).bind fun bt495 => (if (t492 != bt495.2) = true then (laws_FnInputsPut.j0 k l0 l1 t484 t485 t486 t491 bt495.2 true) else ((laws_pSameExpr.f k t491 bt495.1).bind fun t499 => (laws_FnInputsPut.j0 k l0 l1 t484 t485 t486 t491 bt495.2 (!t499))))) = some r := H
  have A6 := zK A60
  clear A60
  replace H := Option.bind_eq_some_iff.mp H
  obtain ⟨⟨t495, t496⟩, A70, H⟩ := H
  replace H : (if (t492 != t496) = true then (laws_FnInputsPut.j0 k l0 l1 t484 t485 t486 t491 t496 true) else ((laws_pSameExpr.f k t491 t495).bind fun t499 => (laws_FnInputsPut.j0 k l0 l1 t484 t485 t486 t491 t496 (!t499)))) = some r := H
  have A7 := zK A70
  clear A70
  have HC8 := zK H
  clear H
  go_enter Try.func3, Try.ntmps3
  go_upto_region 6 with (first | ((with_reducible refine gate_callee (f := 8) rfl ?_); refine goesL_ (some 36) rfl rfl Try.func8 (by kernel_rfl) rfl #[.slice A0 l0.length c0, .slice A1 l1.length c1] rfl (by (try simp only [z6, z7, z8]); first | done | rfl | (simp only [z4, z5]; rfl)) ?_; (with_reducible refine (laws_big.calls _ _ l0 _ _ l1 false _ ?side1 ?side2 ?side3 ?side4 A3.out).mono ?_); (case side1 => repeat (first | exact HR0.out | (with_reducible refine Kd.C_alloc ?_ _) | (with_reducible refine Kd.C_drewN ?_ _) | (with_reducible refine Kd.C_drew ?_))); (case side2 => exact HC0.out); (case side3 => repeat (first | exact HR1.out | (with_reducible refine Kd.C_alloc ?_ _) | (with_reducible refine Kd.C_drewN ?_ _) | (with_reducible refine Kd.C_drew ?_))); (case side4 => exact HC1.out); rintro e w' ⟨rfl, ⟨nd, rfl⟩⟩; refine ⟨_, rfl, ?_⟩) | ((with_reducible refine gate_callee (f := 9) rfl ?_); refine goesL_ (some 39) rfl rfl Try.func9 (by kernel_rfl) rfl #[.slice A0 l0.length c0] rfl (by (try simp only [z6, z7, z8]); first | done | rfl | (simp only [z4, z5]; rfl)) ?_; (with_reducible refine (spec_DrawPutInput.calls k _ _ l0 t484 t485 t486 _ ?side1 ?side2 A5.out).mono ?_); (case side1 => repeat (first | exact HR0.out | (with_reducible refine Kd.C_alloc ?_ _) | (with_reducible refine Kd.C_drewN ?_ _) | (with_reducible refine Kd.C_drew ?_))); (case side2 => exact HC0.out); rintro e w9 ⟨v487, v489, rfl, ho0, ho1, hb⟩; refine ⟨_, rfl, ?_⟩; have n0_ := zK (Kd.R_lower ho0 (zN (by repeat (first | (with_reducible first | exact HB.out | apply zA | apply zB | apply zC) | exact HB.out)))); have n1_ := zK (Kd.R_lower ho1 (zN (by repeat (first | (with_reducible first | exact HB.out | apply zA | apply zB | apply zC) | exact HB.out)))); have n2_ := zK (zL (by repeat (first | (with_reducible first | exact HB.out | apply zA | apply zB | apply zC) | exact HB.out)) hb); clear HB; have HO488 := n0_; have HO490 := n1_; have HB := n2_; clear n0_ n1_ n2_; (try clear hb); (try clear hb2); (try clear hk); (try clear hi); (try clear ho0); (try clear ho1); obtain ⟨Ao10, co10, eo10⟩ := Kd.R_slice HO488.out; subst eo10; obtain ⟨Ao11, co11, eo11⟩ := Kd.R_slice HO490.out; subst eo11) | ((with_reducible refine gate_callee (f := 10) rfl ?_); refine goesL_ (some 47) rfl rfl Try.func10 (by kernel_rfl) rfl #[.slice Ao10 t484.length co10, .int .i64 t485, .slice Ao11 t486.length co11] rfl (by (try simp only [z6, z7, z8]); first | done | rfl | (simp only [z4, z5]; rfl)) ?_; (with_reducible refine (impl_PutInput.calls k _ _ t484 t485 _ _ t486 t491 t492 _ ?side1 ?side2 ?side3 ?side4 A6.out).mono ?_); (case side1 => repeat (first | exact (Kd.R_reads' HO488.out).2.2 | (with_reducible refine Kd.C_alloc ?_ _) | (with_reducible refine Kd.C_drewN ?_ _) | (with_reducible refine Kd.C_drew ?_))); (case side2 => exact (Kd.R_reads' HO488.out).2.1); (case side3 => repeat (first | exact (Kd.R_reads' HO490.out).2.2 | (with_reducible refine Kd.C_alloc ?_ _) | (with_reducible refine Kd.C_drewN ?_ _) | (with_reducible refine Kd.C_drew ?_))); (case side4 => exact (Kd.R_reads' HO490.out).2.1); rintro e w12 ⟨v493, rfl, ho0, hb⟩; refine ⟨_, rfl, ?_⟩; have n0_ := zK (Kd.R_elder' (by (with_reducible repeat (first | apply Kd.R_alloc | apply Kd.R_drewN | apply Kd.R_drew)); exact HO488.out) (Kd.R_base ho0) hb); have n1_ := zK (Kd.R_elder' (by (with_reducible repeat (first | apply Kd.R_alloc | apply Kd.R_drewN | apply Kd.R_drew)); exact HO490.out) (Kd.R_base ho0) hb); have n2_ := zK (Kd.R_lower (Kd.R_new' (Kd.R_new' ho0 (Kd.R_lt (by (with_reducible repeat (first | apply Kd.R_alloc | apply Kd.R_drewN | apply Kd.R_drew)); exact HO488.out))) (Kd.R_lt (by (with_reducible repeat (first | apply Kd.R_alloc | apply Kd.R_drewN | apply Kd.R_drew)); exact HO490.out))) (zN (by repeat (first | (with_reducible first | exact HB.out | apply zA | apply zB | apply zC) | exact HB.out)))); have n3_ := zK (zL (by repeat (first | (with_reducible first | exact HB.out | apply zA | apply zB | apply zC) | exact HB.out)) hb); clear HO488; clear HO490; clear HB; have HO488 := n0_; have HO490 := n1_; have HO494 := n2_; have HB := n3_; clear n0_ n1_ n2_ n3_; (try clear hb); (try clear hb2); (try clear hk); (try clear hi); (try clear ho0)) | ((with_reducible refine gate_callee (f := 11) rfl ?_); refine goesL_ (some 54) rfl rfl Try.func11 (by kernel_rfl) rfl #[.slice Ao10 t484.length co10, .int .i64 t485, .slice Ao11 t486.length co11] rfl (by (try simp only [z6, z7, z8]); first | done | rfl | (simp only [z4, z5]; rfl)) ?_; (with_reducible refine (spec_PutInput.calls k _ _ t484 t485 _ _ t486 t495 t496 _ ?side1 ?side2 ?side3 ?side4 A7.out).mono ?_); (case side1 => repeat (first | exact (Kd.R_reads' HO488.out).2.2 | (with_reducible refine Kd.C_alloc ?_ _) | (with_reducible refine Kd.C_drewN ?_ _) | (with_reducible refine Kd.C_drew ?_))); (case side2 => exact (Kd.R_reads' HO488.out).2.1); (case side3 => repeat (first | exact (Kd.R_reads' HO490.out).2.2 | (with_reducible refine Kd.C_alloc ?_ _) | (with_reducible refine Kd.C_drewN ?_ _) | (with_reducible refine Kd.C_drew ?_))); (case side4 => exact (Kd.R_reads' HO490.out).2.1); rintro e w13 ⟨v497, rfl, ho0, hb⟩; refine ⟨_, rfl, ?_⟩; have n0_ := zK (Kd.R_elder' (by (with_reducible repeat (first | apply Kd.R_alloc | apply Kd.R_drewN | apply Kd.R_drew)); exact HO488.out) (Kd.R_base ho0) hb); have n1_ := zK (Kd.R_elder' (by (with_reducible repeat (first | apply Kd.R_alloc | apply Kd.R_drewN | apply Kd.R_drew)); exact HO490.out) (Kd.R_base ho0) hb); have n2_ := zK (Kd.R_elder' (by (with_reducible repeat (first | apply Kd.R_alloc | apply Kd.R_drewN | apply Kd.R_drew)); exact HO494.out) (Kd.R_base ho0) hb); have n3_ := zK (Kd.R_lower (Kd.R_new' (Kd.R_new' (Kd.R_new' ho0 (Kd.R_lt (by (with_reducible repeat (first | apply Kd.R_alloc | apply Kd.R_drewN | apply Kd.R_drew)); exact HO488.out))) (Kd.R_lt (by (with_reducible repeat (first | apply Kd.R_alloc | apply Kd.R_drewN | apply Kd.R_drew)); exact HO490.out))) (Kd.R_lt (by (with_reducible repeat (first | apply Kd.R_alloc | apply Kd.R_drewN | apply Kd.R_drew)); exact HO494.out))) (zN (by repeat (first | (with_reducible first | exact HB.out | apply zA | apply zB | apply zC) | exact HB.out)))); have n4_ := zK (zL (by repeat (first | (with_reducible first | exact HB.out | apply zA | apply zB | apply zC) | exact HB.out)) hb); clear HO488; clear HO490; clear HO494; clear HB; have HO488 := n0_; have HO490 := n1_; have HO494 := n2_; have HO498 := n3_; have HB := n4_; clear n0_ n1_ n2_ n3_ n4_; (try clear hb); (try clear hb2); (try clear hk); (try clear hi); (try clear ho0)))
  (try simp only [Act.put, z1, z2, z3])
  go_cut [65] (fun v65 wc => ∃ (kq : Nat) (x65_7 : Bool), v65 = .bool x65_7 ∧ Aside0 (laws_FnInputsPut.j0 kq l0 l1 t484 t485 t486 t491 t496 x65_7 = some r) ∧ Aside0 (kq ≤ k) ∧ Aside0 (Kd.R k47 47 wc w.heap.size (fun k_ => some k_ ≠ ((.slice Ao11 t486.length co11) : Value).ownBlock ∧ some k_ ≠ (v493 : Value).ownBlock) (.slice Ao10 t484.length co10) t484) ∧ Aside0 (Kd.R k47 47 wc w.heap.size (fun k_ => some k_ ≠ ((.slice Ao10 t484.length co10) : Value).ownBlock ∧ some k_ ≠ (v493 : Value).ownBlock) (.slice Ao11 t486.length co11) t486) ∧ Aside0 (Kd.R k47 47 wc w.heap.size (fun k_ => some k_ ≠ ((.slice Ao10 t484.length co10) : Value).ownBlock ∧ some k_ ≠ ((.slice Ao11 t486.length co11) : Value).ownBlock) v493 t491) ∧ Aside0 (Below w.heap.size w wc))
  case first =>
   have H := HC8.out
   clear HC8
   by_cases c14 : (t492 != t496) = true
   ·rw [if_pos c14] at H
    have c14b0 : (t492 != t496) = true := c14
    (try (have c14b1 : decide (t492 = t496) = false := by simpa using c14))
    (try (have c14b2 : (t492 == t496) = false := by simpa using c14))
    (try (have c14b3 : ¬ (t492 = t496) := by simpa using c14))
    clear c14
    (first | rw [c14b0] | (simp only [i64_w, i32_w]; rw [c14b0]) | skip)
    have H' := zK H
    clear H
    go_wp2
    go_meet
    case rel => exact ⟨_, (true), (by first | rfl | (simp; done) | (simp [*]; done)), H', ⟨by first | omega | exact Nat.le_refl _⟩, ⟨by (with_reducible repeat (first | apply Kd.R_alloc | apply Kd.R_drewN | apply Kd.R_drew)); exact Kd.R_mono HO488.out (fun _ hk => ⟨hk.1.1, hk.1.2⟩)⟩, ⟨by (with_reducible repeat (first | apply Kd.R_alloc | apply Kd.R_drewN | apply Kd.R_drew)); exact Kd.R_mono HO490.out (fun _ hk => ⟨hk.1.1, hk.1.2⟩)⟩, ⟨by (with_reducible repeat (first | apply Kd.R_alloc | apply Kd.R_drewN | apply Kd.R_drew)); exact Kd.R_mono HO494.out (fun _ hk => ⟨hk.1.1.2, hk.1.2⟩)⟩, ⟨by repeat (first | (with_reducible first | exact HB.out | apply zA | apply zB | apply zC) | exact HB.out)⟩⟩
   ·rw [if_neg c14] at H
    have c14b0 : (t492 != t496) = false := by simpa using c14
    (try (have c14b1 : decide (t492 = t496) = true := by simpa using c14))
    (try (have c14b2 : (t492 == t496) = true := by simpa using c14))
    clear c14
    (first | rw [c14b0] | (simp only [i64_w, i32_w]; rw [c14b0]) | skip)
    replace H := Option.bind_eq_some_iff.mp H
    obtain ⟨t499, A150, H⟩ := H
    replace H : (laws_FnInputsPut.j0 k l0 l1 t484 t485 t486 t491 t496 (!t499)) = some r := H
    have A15 := zK A150
    clear A150
    have H' := zK H
    clear H
    obtain ⟨Ao16, co16, eo16⟩ := Kd.R_slice HO494.out
    subst eo16
    obtain ⟨Ao17, co17, eo17⟩ := Kd.R_slice HO498.out
    subst eo17
    go_wp2_with (first | (go_at_call 12; (with_reducible refine (laws_pSameExpr.calls k _ _ t491 _ _ t495 t499 _ ?side1 ?side2 ?side3 ?side4 A15.out).mono ?_); (case side1 => repeat (first | exact (Kd.R_reads' HO494.out).2.2 | (with_reducible refine Kd.C_alloc ?_ _) | (with_reducible refine Kd.C_drewN ?_ _) | (with_reducible refine Kd.C_drew ?_))); (case side2 => exact (Kd.R_reads' HO494.out).2.1); (case side3 => repeat (first | exact (Kd.R_reads' HO498.out).2.2 | (with_reducible refine Kd.C_alloc ?_ _) | (with_reducible refine Kd.C_drewN ?_ _) | (with_reducible refine Kd.C_drew ?_))); (case side4 => exact (Kd.R_reads' HO498.out).2.1); rintro e w' ⟨rfl, ⟨nd, rfl⟩⟩))
    go_meet
    case rel => exact ⟨_, (!t499), (by first | rfl | (simp; done) | (simp [*]; done)), H', ⟨by first | omega | exact Nat.le_refl _⟩, ⟨by (with_reducible repeat (first | apply Kd.R_alloc | apply Kd.R_drewN | apply Kd.R_drew)); exact Kd.R_mono HO488.out (fun _ hk => ⟨hk.1.1, hk.1.2⟩)⟩, ⟨by (with_reducible repeat (first | apply Kd.R_alloc | apply Kd.R_drewN | apply Kd.R_drew)); exact Kd.R_mono HO490.out (fun _ hk => ⟨hk.1.1, hk.1.2⟩)⟩, ⟨by (with_reducible repeat (first | apply Kd.R_alloc | apply Kd.R_drewN | apply Kd.R_drew)); exact Kd.R_mono HO494.out (fun _ hk => ⟨hk.1.1.2, hk.1.2⟩)⟩, ⟨by repeat (first | (with_reducible first | exact HB.out | apply zA | apply zB | apply zC) | exact HB.out)⟩⟩
  case rest =>
   clear HC8
   try clear c1
   try clear p2
   try clear c3
   try clear c4
   try clear c8
   try clear c9
   try clear c10
   try clear c11
   try clear c14
   try clear c14b0
   try clear c14b1
   try clear c14b2
   obtain ⟨kq, x65_7, rfl, HA, HJ7, HO_5, HO_7, HO_8, HB⟩ := hcut
   cases kq with
   | zero => exact absurd HA.out (by simp [laws_FnInputsPut.j0])
   | succ kj7 =>
    have H := HA.out
    clear HA
    simp only [laws_FnInputsPut.j0] at H
    by_cases c18 : x65_7 = true
    ·subst c18
     have H1 : (some false) = some r := by rw [if_pos rfl] at H; exact H
     clear H
     have H := H1
     clear H1
     exact absurd ((Option.some.inj H).trans hr) (by decide)
    ·replace c18 := Bool.eq_false_iff.mpr c18
     subst c18
     have H1 : ((spec_DrawUsesOf.f kj7 l1).bind fun t500 => ((impl_UsesOf.f kj7 t500).bind fun bt503 => ((spec_UsesOf.f kj7 t500).bind fun bt507 => ((impl_IsTree.f kj7 t500).bind fun bt511 => ((spec_IsTree.f kj7 t500).bind fun bt513 => (if (bt503.2 != bt507.2) = true then (laws_FnInputsPut.j1 kj7 l0 l1 t484 t485 t486 t491 t496 bt503.1 bt511.1 true) else ((laws_pSame.f kj7 bt503.1 bt507.1).bind fun t515 => (if t515 = true then (if (bt511.2 != bt513.2) = true then (laws_FnInputsPut.j1 kj7 l0 l1 t484 t485 t486 t491 t496 bt503.1 bt511.1 true) else (if (bt511.1 != bt513.1) = true then (laws_FnInputsPut.j1 kj7 l0 l1 t484 t485 t486 t491 t496 bt503.1 bt511.1 true) else (laws_FnInputsPut.j1 kj7 l0 l1 t484 t485 t486 t491 t496 bt503.1 bt511.1 (bt503.2 != bt511.2)))) else (laws_FnInputsPut.j1 kj7 l0 l1 t484 t485 t486 t491 t496 bt503.1 bt511.1 true))))))))) = some r := by rw [if_neg (show ¬ (false = true) by decide)] at H; exact H
     clear H
     have H := H1
     clear H1
     replace H := Option.bind_eq_some_iff.mp H
     obtain ⟨t500, A190, H⟩ := H
     replace H : ((impl_UsesOf.f kj7 t500).bind fun bt503 => ((spec_UsesOf.f kj7 t500).bind fun bt507 => ((impl_IsTree.f kj7 t500).bind fun bt511 => ((spec_IsTree.f kj7 t500).bind fun bt513 => (if (bt503.2 != bt507.2) = true then (laws_FnInputsPut.j1 kj7 l0 l1 t484 t485 t486 t491 t496 bt503.1 bt511.1 true) else ((laws_pSame.f kj7 bt503.1 bt507.1).bind fun t515 => (if t515 = true then (if (bt511.2 != bt513.2) = true then (laws_FnInputsPut.j1 kj7 l0 l1 t484 t485 t486 t491 t496 bt503.1 bt511.1 true) else (if (bt511.1 != bt513.1) = true then (laws_FnInputsPut.j1 kj7 l0 l1 t484 t485 t486 t491 t496 bt503.1 bt511.1 true) else (laws_FnInputsPut.j1 kj7 l0 l1 t484 t485 t486 t491 t496 bt503.1 bt511.1 (bt503.2 != bt511.2)))) else (laws_FnInputsPut.j1 kj7 l0 l1 t484 t485 t486 t491 t496 bt503.1 bt511.1 true)))))))) = some r := H
     have A19 := zK A190
     clear A190
     replace H := Option.bind_eq_some_iff.mp H
     obtain ⟨⟨t503, t504⟩, A200, H⟩ := H
     replace H : ((spec_UsesOf.f kj7 t500).bind fun bt507 => ((impl_IsTree.f kj7 t500).bind fun bt511 => ((spec_IsTree.f kj7 t500).bind fun bt513 => (if (t504 != bt507.2) = true then (laws_FnInputsPut.j1 kj7 l0 l1 t484 t485 t486 t491 t496 t503 bt511.1 true) else ((laws_pSame.f kj7 t503 bt507.1).bind fun t515 => (if t515 = true then (if (bt511.2 != bt513.2) = true then (laws_FnInputsPut.j1 kj7 l0 l1 t484 t485 t486 t491 t496 t503 bt511.1 true) else (if (bt511.1 != bt513.1) = true then (laws_FnInputsPut.j1 kj7 l0 l1 t484 t485 t486 t491 t496 t503 bt511.1 true) else (laws_FnInputsPut.j1 kj7 l0 l1 t484 t485 t486 t491 t496 t503 bt511.1 (t504 != bt511.2)))) else (laws_FnInputsPut.j1 kj7 l0 l1 t484 t485 t486 t491 t496 t503 bt511.1 true))))))) = some r := H
     have A20 := zK A200
     clear A200
     replace H := Option.bind_eq_some_iff.mp H
     obtain ⟨⟨t507, t508⟩, A210, H⟩ := H
     replace H : ((impl_IsTree.f kj7 t500).bind fun bt511 => ((spec_IsTree.f kj7 t500).bind fun bt513 => (if (t504 != t508) = true then (laws_FnInputsPut.j1 kj7 l0 l1 t484 t485 t486 t491 t496 t503 bt511.1 true) else ((laws_pSame.f kj7 t503 t507).bind fun t515 => (if t515 = true then (if (bt511.2 != bt513.2) = true then (laws_FnInputsPut.j1 kj7 l0 l1 t484 t485 t486 t491 t496 t503 bt511.1 true) else (if (bt511.1 != bt513.1) = true then (laws_FnInputsPut.j1 kj7 l0 l1 t484 t485 t486 t491 t496 t503 bt511.1 true) else (laws_FnInputsPut.j1 kj7 l0 l1 t484 t485 t486 t491 t496 t503 bt511.1 (t504 != bt511.2)))) else (laws_FnInputsPut.j1 kj7 l0 l1 t484 t485 t486 t491 t496 t503 bt511.1 true)))))) = some r := H
     have A21 := zK A210
     clear A210
     replace H := Option.bind_eq_some_iff.mp H
     obtain ⟨⟨t511, t512⟩, A220, H⟩ := H
     replace H : ((spec_IsTree.f kj7 t500).bind fun bt513 => (if (t504 != t508) = true then (laws_FnInputsPut.j1 kj7 l0 l1 t484 t485 t486 t491 t496 t503 t511 true) else ((laws_pSame.f kj7 t503 t507).bind fun t515 => (if t515 = true then (if (t512 != bt513.2) = true then (laws_FnInputsPut.j1 kj7 l0 l1 t484 t485 t486 t491 t496 t503 t511 true) else (if (t511 != bt513.1) = true then (laws_FnInputsPut.j1 kj7 l0 l1 t484 t485 t486 t491 t496 t503 t511 true) else (laws_FnInputsPut.j1 kj7 l0 l1 t484 t485 t486 t491 t496 t503 t511 (t504 != t512)))) else (laws_FnInputsPut.j1 kj7 l0 l1 t484 t485 t486 t491 t496 t503 t511 true))))) = some r := H
     have A22 := zK A220
     clear A220
     replace H := Option.bind_eq_some_iff.mp H
     obtain ⟨⟨t513, t514⟩, A230, H⟩ := H
     replace H : (if (t504 != t508) = true then (laws_FnInputsPut.j1 kj7 l0 l1 t484 t485 t486 t491 t496 t503 t511 true) else ((laws_pSame.f kj7 t503 t507).bind fun t515 => (if t515 = true then (if (t512 != t514) = true then (laws_FnInputsPut.j1 kj7 l0 l1 t484 t485 t486 t491 t496 t503 t511 true) else (if (t511 != t513) = true then (laws_FnInputsPut.j1 kj7 l0 l1 t484 t485 t486 t491 t496 t503 t511 true) else (laws_FnInputsPut.j1 kj7 l0 l1 t484 t485 t486 t491 t496 t503 t511 (t504 != t512)))) else (laws_FnInputsPut.j1 kj7 l0 l1 t484 t485 t486 t491 t496 t503 t511 true)))) = some r := H
     have A23 := zK A230
     clear A230
     have HC24 := zK H
     clear H
     go_upto_region 13 with (first | ((with_reducible refine gate_callee (f := 13) rfl ?_); refine goesL_ (some 67) rfl rfl Try.func13 (by kernel_rfl) rfl #[.slice A1 l1.length c1] rfl (by (try simp only [z6, z7, z8]); first | done | rfl | (simp only [z4, z5]; rfl)) ?_; (with_reducible refine (spec_DrawUsesOf.calls kj7 _ _ l1 t500 _ ?side1 ?side2 A19.out).mono ?_); (case side1 => repeat (first | exact (Kd.C_below HR1.out HB.out) | (with_reducible refine Kd.C_alloc ?_ _) | (with_reducible refine Kd.C_drewN ?_ _) | (with_reducible refine Kd.C_drew ?_))); (case side2 => exact HC1.out); rintro e w25 ⟨v501, rfl, ho0, hb⟩; refine ⟨_, rfl, ?_⟩; have n0_ := zK (Kd.R_elder' (by (with_reducible repeat (first | apply Kd.R_alloc | apply Kd.R_drewN | apply Kd.R_drew)); exact HO_5.out) (Kd.R_base ho0) hb); have n1_ := zK (Kd.R_elder' (by (with_reducible repeat (first | apply Kd.R_alloc | apply Kd.R_drewN | apply Kd.R_drew)); exact HO_7.out) (Kd.R_base ho0) hb); have n2_ := zK (Kd.R_elder' (by (with_reducible repeat (first | apply Kd.R_alloc | apply Kd.R_drewN | apply Kd.R_drew)); exact HO_8.out) (Kd.R_base ho0) hb); have n3_ := zK (Kd.R_lower (Kd.R_new' (Kd.R_new' (Kd.R_new' ho0 (Kd.R_lt (by (with_reducible repeat (first | apply Kd.R_alloc | apply Kd.R_drewN | apply Kd.R_drew)); exact HO_5.out))) (Kd.R_lt (by (with_reducible repeat (first | apply Kd.R_alloc | apply Kd.R_drewN | apply Kd.R_drew)); exact HO_7.out))) (Kd.R_lt (by (with_reducible repeat (first | apply Kd.R_alloc | apply Kd.R_drewN | apply Kd.R_drew)); exact HO_8.out))) (zN (by repeat (first | (with_reducible first | exact HB.out | apply zA | apply zB | apply zC) | exact HB.out)))); have n4_ := zK (zL (by repeat (first | (with_reducible first | exact HB.out | apply zA | apply zB | apply zC) | exact HB.out)) hb); clear HO_5; clear HO_7; clear HO_8; clear HB; have HO_5 := n0_; have HO_7 := n1_; have HO_8 := n2_; have HO502 := n3_; have HB := n4_; clear n0_ n1_ n2_ n3_ n4_; (try clear hb); (try clear hb2); (try clear hk); (try clear hi); (try clear ho0); obtain ⟨Ao26, co26, eo26⟩ := Kd.R_slice HO502.out; subst eo26) | ((with_reducible refine gate_callee (f := 14) rfl ?_); refine goesL_ (some 70) rfl rfl Try.func14 (by kernel_rfl) rfl #[.slice Ao26 t500.length co26] rfl (by (try simp only [z6, z7, z8]); first | done | rfl | (simp only [z4, z5]; rfl)) ?_; (with_reducible refine (impl_UsesOf.calls kj7 _ _ t500 t503 t504 _ ?side1 ?side2 A20.out).mono ?_); (case side1 => repeat (first | exact (Kd.R_reads' HO502.out).2.2 | (with_reducible refine Kd.C_alloc ?_ _) | (with_reducible refine Kd.C_drewN ?_ _) | (with_reducible refine Kd.C_drew ?_))); (case side2 => exact (Kd.R_reads' HO502.out).2.1); rintro e w27 ⟨v505, rfl, ho0, hb⟩; refine ⟨_, rfl, ?_⟩; have n0_ := zK (Kd.R_below (by (with_reducible repeat (first | apply Kd.R_alloc | apply Kd.R_drewN | apply Kd.R_drew)); exact HO_5.out) hb); have n1_ := zK (Kd.R_below (by (with_reducible repeat (first | apply Kd.R_alloc | apply Kd.R_drewN | apply Kd.R_drew)); exact HO_7.out) hb); have n2_ := zK (Kd.R_below (by (with_reducible repeat (first | apply Kd.R_alloc | apply Kd.R_drewN | apply Kd.R_drew)); exact HO_8.out) hb); have n3_ := zK (Kd.R_below (by (with_reducible repeat (first | apply Kd.R_alloc | apply Kd.R_drewN | apply Kd.R_drew)); exact HO502.out) hb); have n4_ := zK (Kd.R_lower ho0 (zN (by repeat (first | (with_reducible first | exact HB.out | apply zA | apply zB | apply zC) | exact HB.out)))); have n5_ := zK (zL (by repeat (first | (with_reducible first | exact HB.out | apply zA | apply zB | apply zC) | exact HB.out)) hb); clear HO_5; clear HO_7; clear HO_8; clear HO502; clear HB; have HO_5 := n0_; have HO_7 := n1_; have HO_8 := n2_; have HO502 := n3_; have HO506 := n4_; have HB := n5_; clear n0_ n1_ n2_ n3_ n4_ n5_; (try clear hb); (try clear hb2); (try clear hk); (try clear hi); (try clear ho0)) | ((with_reducible refine gate_callee (f := 15) rfl ?_); refine goesL_ (some 75) rfl rfl Try.func15 (by kernel_rfl) rfl #[.slice Ao26 t500.length co26] rfl (by (try simp only [z6, z7, z8]); first | done | rfl | (simp only [z4, z5]; rfl)) ?_; (with_reducible refine (spec_UsesOf.calls kj7 _ _ t500 t507 t508 _ ?side1 ?side2 A21.out).mono ?_); (case side1 => repeat (first | exact (Kd.R_reads' HO502.out).2.2 | (with_reducible refine Kd.C_alloc ?_ _) | (with_reducible refine Kd.C_drewN ?_ _) | (with_reducible refine Kd.C_drew ?_))); (case side2 => exact (Kd.R_reads' HO502.out).2.1); rintro e w28 ⟨v509, rfl, ho0, hb⟩; refine ⟨_, rfl, ?_⟩; have n0_ := zK (Kd.R_below (by (with_reducible repeat (first | apply Kd.R_alloc | apply Kd.R_drewN | apply Kd.R_drew)); exact HO_5.out) hb); have n1_ := zK (Kd.R_below (by (with_reducible repeat (first | apply Kd.R_alloc | apply Kd.R_drewN | apply Kd.R_drew)); exact HO_7.out) hb); have n2_ := zK (Kd.R_below (by (with_reducible repeat (first | apply Kd.R_alloc | apply Kd.R_drewN | apply Kd.R_drew)); exact HO_8.out) hb); have n3_ := zK (Kd.R_below (by (with_reducible repeat (first | apply Kd.R_alloc | apply Kd.R_drewN | apply Kd.R_drew)); exact HO502.out) hb); have n4_ := zK (Kd.R_elder' (by (with_reducible repeat (first | apply Kd.R_alloc | apply Kd.R_drewN | apply Kd.R_drew)); exact HO506.out) (Kd.R_base ho0) hb); have n5_ := zK (Kd.R_lower (Kd.R_new' ho0 (Kd.R_lt (by (with_reducible repeat (first | apply Kd.R_alloc | apply Kd.R_drewN | apply Kd.R_drew)); exact HO506.out))) (zN (by repeat (first | (with_reducible first | exact HB.out | apply zA | apply zB | apply zC) | exact HB.out)))); have n6_ := zK (zL (by repeat (first | (with_reducible first | exact HB.out | apply zA | apply zB | apply zC) | exact HB.out)) hb); clear HO_5; clear HO_7; clear HO_8; clear HO502; clear HO506; clear HB; have HO_5 := n0_; have HO_7 := n1_; have HO_8 := n2_; have HO502 := n3_; have HO506 := n4_; have HO510 := n5_; have HB := n6_; clear n0_ n1_ n2_ n3_ n4_ n5_ n6_; (try clear hb); (try clear hb2); (try clear hk); (try clear hi); (try clear ho0)) | ((with_reducible refine gate_callee (f := 16) rfl ?_); refine goesL_ (some 80) rfl rfl Try.func16 (by kernel_rfl) rfl #[.slice Ao26 t500.length co26] rfl (by (try simp only [z6, z7, z8]); first | done | rfl | (simp only [z4, z5]; rfl)) ?_; (with_reducible refine (impl_IsTree.calls kj7 _ _ t500 t511 t512 _ ?side1 ?side2 A22.out).mono ?_); (case side1 => repeat (first | exact (Kd.R_reads' HO502.out).2.2 | (with_reducible refine Kd.C_alloc ?_ _) | (with_reducible refine Kd.C_drewN ?_ _) | (with_reducible refine Kd.C_drew ?_))); (case side2 => exact (Kd.R_reads' HO502.out).2.1); rintro e w29 ⟨rfl, hb⟩; refine ⟨_, rfl, ?_⟩; have n0_ := zK (Kd.R_below (by (with_reducible repeat (first | apply Kd.R_alloc | apply Kd.R_drewN | apply Kd.R_drew)); exact HO_5.out) hb); have n1_ := zK (Kd.R_below (by (with_reducible repeat (first | apply Kd.R_alloc | apply Kd.R_drewN | apply Kd.R_drew)); exact HO_7.out) hb); have n2_ := zK (Kd.R_below (by (with_reducible repeat (first | apply Kd.R_alloc | apply Kd.R_drewN | apply Kd.R_drew)); exact HO_8.out) hb); have n3_ := zK (Kd.R_below (by (with_reducible repeat (first | apply Kd.R_alloc | apply Kd.R_drewN | apply Kd.R_drew)); exact HO502.out) hb); have n4_ := zK (Kd.R_below (by (with_reducible repeat (first | apply Kd.R_alloc | apply Kd.R_drewN | apply Kd.R_drew)); exact HO506.out) hb); have n5_ := zK (Kd.R_below (by (with_reducible repeat (first | apply Kd.R_alloc | apply Kd.R_drewN | apply Kd.R_drew)); exact HO510.out) hb); have n6_ := zK (zL (by repeat (first | (with_reducible first | exact HB.out | apply zA | apply zB | apply zC) | exact HB.out)) hb); clear HO_5; clear HO_7; clear HO_8; clear HO502; clear HO506; clear HO510; clear HB; have HO_5 := n0_; have HO_7 := n1_; have HO_8 := n2_; have HO502 := n3_; have HO506 := n4_; have HO510 := n5_; have HB := n6_; clear n0_ n1_ n2_ n3_ n4_ n5_ n6_; (try clear hb); (try clear hb2); (try clear hk); (try clear hi)) | ((with_reducible refine gate_callee (f := 17) rfl ?_); refine goesL_ (some 85) rfl rfl Try.func17 (by kernel_rfl) rfl #[.slice Ao26 t500.length co26] rfl (by (try simp only [z6, z7, z8]); first | done | rfl | (simp only [z4, z5]; rfl)) ?_; (with_reducible refine (spec_IsTree.calls kj7 _ _ t500 t513 t514 _ ?side1 ?side2 A23.out).mono ?_); (case side1 => repeat (first | exact (Kd.R_reads' HO502.out).2.2 | (with_reducible refine Kd.C_alloc ?_ _) | (with_reducible refine Kd.C_drewN ?_ _) | (with_reducible refine Kd.C_drew ?_))); (case side2 => exact (Kd.R_reads' HO502.out).2.1); rintro e w30 ⟨rfl, hb⟩; refine ⟨_, rfl, ?_⟩; have n0_ := zK (Kd.R_below (by (with_reducible repeat (first | apply Kd.R_alloc | apply Kd.R_drewN | apply Kd.R_drew)); exact HO_5.out) hb); have n1_ := zK (Kd.R_below (by (with_reducible repeat (first | apply Kd.R_alloc | apply Kd.R_drewN | apply Kd.R_drew)); exact HO_7.out) hb); have n2_ := zK (Kd.R_below (by (with_reducible repeat (first | apply Kd.R_alloc | apply Kd.R_drewN | apply Kd.R_drew)); exact HO_8.out) hb); have n3_ := zK (Kd.R_below (by (with_reducible repeat (first | apply Kd.R_alloc | apply Kd.R_drewN | apply Kd.R_drew)); exact HO502.out) hb); have n4_ := zK (Kd.R_below (by (with_reducible repeat (first | apply Kd.R_alloc | apply Kd.R_drewN | apply Kd.R_drew)); exact HO506.out) hb); have n5_ := zK (Kd.R_below (by (with_reducible repeat (first | apply Kd.R_alloc | apply Kd.R_drewN | apply Kd.R_drew)); exact HO510.out) hb); have n6_ := zK (zL (by repeat (first | (with_reducible first | exact HB.out | apply zA | apply zB | apply zC) | exact HB.out)) hb); clear HO_5; clear HO_7; clear HO_8; clear HO502; clear HO506; clear HO510; clear HB; have HO_5 := n0_; have HO_7 := n1_; have HO_8 := n2_; have HO502 := n3_; have HO506 := n4_; have HO510 := n5_; have HB := n6_; clear n0_ n1_ n2_ n3_ n4_ n5_ n6_; (try clear hb); (try clear hb2); (try clear hk); (try clear hi)))
     (try simp only [Act.put, z1, z2, z3])
     go_cut [111] (fun v111 wc => ∃ (kq : Nat) (x111_23 : Bool), v111 = .bool x111_23 ∧ Aside0 (laws_FnInputsPut.j1 kq l0 l1 t484 t485 t486 t491 t496 t503 t511 x111_23 = some r) ∧ Aside0 (kq ≤ kj7) ∧ Aside0 (Kd.R k47 47 wc w.heap.size (fun k_ => some k_ ≠ ((.slice Ao11 t486.length co11) : Value).ownBlock ∧ some k_ ≠ (v493 : Value).ownBlock) (.slice Ao10 t484.length co10) t484) ∧ Aside0 (Kd.R k47 47 wc w.heap.size (fun k_ => some k_ ≠ ((.slice Ao10 t484.length co10) : Value).ownBlock ∧ some k_ ≠ (v493 : Value).ownBlock) (.slice Ao11 t486.length co11) t486) ∧ Aside0 (Kd.R k47 47 wc w.heap.size (fun k_ => some k_ ≠ ((.slice Ao10 t484.length co10) : Value).ownBlock ∧ some k_ ≠ ((.slice Ao11 t486.length co11) : Value).ownBlock) v493 t491) ∧ Aside0 (Kd.R (Kd.int .i64) 3 wc w.heap.size (fun _ => True) v505 t503) ∧ Aside0 (Below w.heap.size w wc))
     case first =>
      have H := HC24.out
      clear HC24
      by_cases c31 : (t504 != t508) = true
      ·rw [if_pos c31] at H
       have c31b0 : (t504 != t508) = true := c31
       (try (have c31b1 : decide (t504 = t508) = false := by simpa using c31))
       (try (have c31b2 : (t504 == t508) = false := by simpa using c31))
       (try (have c31b3 : ¬ (t504 = t508) := by simpa using c31))
       clear c31
       (first | rw [c31b0] | (simp only [i64_w, i32_w]; rw [c31b0]) | skip)
       have H' := zK H
       clear H
       go_wp2
       go_meet
       case rel => exact ⟨_, (true), (by first | rfl | (simp; done) | (simp [*]; done)), H', ⟨by have := HJ7.out; first | omega | exact Nat.le_refl _⟩, ⟨by (with_reducible repeat (first | apply Kd.R_alloc | apply Kd.R_drewN | apply Kd.R_drew)); exact Kd.R_mono HO_5.out (fun _ hk => ⟨hk.1.1, hk.1.2⟩)⟩, ⟨by (with_reducible repeat (first | apply Kd.R_alloc | apply Kd.R_drewN | apply Kd.R_drew)); exact Kd.R_mono HO_7.out (fun _ hk => ⟨hk.1.1, hk.1.2⟩)⟩, ⟨by (with_reducible repeat (first | apply Kd.R_alloc | apply Kd.R_drewN | apply Kd.R_drew)); exact Kd.R_mono HO_8.out (fun _ hk => ⟨hk.1.1, hk.1.2⟩)⟩, ⟨by (with_reducible repeat (first | apply Kd.R_alloc | apply Kd.R_drewN | apply Kd.R_drew)); exact Kd.R_mono HO506.out (fun _ hk => trivial)⟩, ⟨by repeat (first | (with_reducible first | exact HB.out | apply zA | apply zB | apply zC) | exact HB.out)⟩⟩
      ·rw [if_neg c31] at H
       have c31b0 : (t504 != t508) = false := by simpa using c31
       (try (have c31b1 : decide (t504 = t508) = true := by simpa using c31))
       (try (have c31b2 : (t504 == t508) = true := by simpa using c31))
       clear c31
       (first | rw [c31b0] | (simp only [i64_w, i32_w]; rw [c31b0]) | skip)
       replace H := Option.bind_eq_some_iff.mp H
       obtain ⟨t515, A320, H⟩ := H
       replace H : (if t515 = true then (if (t512 != t514) = true then (laws_FnInputsPut.j1 kj7 l0 l1 t484 t485 t486 t491 t496 t503 t511 true) else (if (t511 != t513) = true then (laws_FnInputsPut.j1 kj7 l0 l1 t484 t485 t486 t491 t496 t503 t511 true) else (laws_FnInputsPut.j1 kj7 l0 l1 t484 t485 t486 t491 t496 t503 t511 (t504 != t512)))) else (laws_FnInputsPut.j1 kj7 l0 l1 t484 t485 t486 t491 t496 t503 t511 true)) = some r := H
       have A32 := zK A320
       clear A320
       by_cases c33 : t515 = true
       ·subst c33
        have H1 : (if (t512 != t514) = true then (laws_FnInputsPut.j1 kj7 l0 l1 t484 t485 t486 t491 t496 t503 t511 true) else (if (t511 != t513) = true then (laws_FnInputsPut.j1 kj7 l0 l1 t484 t485 t486 t491 t496 t503 t511 true) else (laws_FnInputsPut.j1 kj7 l0 l1 t484 t485 t486 t491 t496 t503 t511 (t504 != t512)))) = some r := by rw [if_pos rfl] at H; exact H
        clear H
        have H := H1
        clear H1
        by_cases c34 : (t512 != t514) = true
        ·rw [if_pos c34] at H
         have c34b0 : (t512 != t514) = true := c34
         (try (have c34b1 : decide (t512 = t514) = false := by simpa using c34))
         (try (have c34b2 : (t512 == t514) = false := by simpa using c34))
         (try (have c34b3 : ¬ (t512 = t514) := by simpa using c34))
         clear c34
         have H' := zK H
         clear H
         obtain ⟨Ao35, co35, eo35⟩ := Kd.R_slice HO506.out
         subst eo35
         obtain ⟨Ao36, co36, eo36⟩ := Kd.R_slice HO510.out
         subst eo36
         go_wp2_with (first | (go_at_call 18; (with_reducible refine (laws_pSame.calls kj7 _ _ t503 _ _ t507 true _ ?side1 ?side2 ?side3 ?side4 A32.out).mono ?_); (case side1 => repeat (first | exact (Kd.R_reads' HO506.out).2.2 | (with_reducible refine Kd.C_alloc ?_ _) | (with_reducible refine Kd.C_drewN ?_ _) | (with_reducible refine Kd.C_drew ?_))); (case side2 => exact (Kd.R_reads' HO506.out).2.1); (case side3 => repeat (first | exact (Kd.R_reads' HO510.out).2.2 | (with_reducible refine Kd.C_alloc ?_ _) | (with_reducible refine Kd.C_drewN ?_ _) | (with_reducible refine Kd.C_drew ?_))); (case side4 => exact (Kd.R_reads' HO510.out).2.1); rintro e w' ⟨rfl, ⟨nd, rfl⟩⟩))
         go_meet
         case rel => exact ⟨_, (true), (by first | rfl | (simp; done) | (simp [*]; done)), H', ⟨by have := HJ7.out; first | omega | exact Nat.le_refl _⟩, ⟨by (with_reducible repeat (first | apply Kd.R_alloc | apply Kd.R_drewN | apply Kd.R_drew)); exact Kd.R_mono HO_5.out (fun _ hk => ⟨hk.1.1, hk.1.2⟩)⟩, ⟨by (with_reducible repeat (first | apply Kd.R_alloc | apply Kd.R_drewN | apply Kd.R_drew)); exact Kd.R_mono HO_7.out (fun _ hk => ⟨hk.1.1, hk.1.2⟩)⟩, ⟨by (with_reducible repeat (first | apply Kd.R_alloc | apply Kd.R_drewN | apply Kd.R_drew)); exact Kd.R_mono HO_8.out (fun _ hk => ⟨hk.1.1, hk.1.2⟩)⟩, ⟨by (with_reducible repeat (first | apply Kd.R_alloc | apply Kd.R_drewN | apply Kd.R_drew)); exact Kd.R_mono HO506.out (fun _ hk => trivial)⟩, ⟨by repeat (first | (with_reducible first | exact HB.out | apply zA | apply zB | apply zC) | exact HB.out)⟩⟩
        ·rw [if_neg c34] at H
         have c34b0 : (t512 != t514) = false := by simpa using c34
         (try (have c34b1 : decide (t512 = t514) = true := by simpa using c34))
         (try (have c34b2 : (t512 == t514) = true := by simpa using c34))
         clear c34
         by_cases c37 : (t511 != t513) = true
         ·rw [if_pos c37] at H
          have c37b0 : (t511 != t513) = true := c37
          (try (have c37b1 : decide (t511 = t513) = false := by simpa using c37))
          (try (have c37b2 : (t511 == t513) = false := by simpa using c37))
          (try (have c37b3 : ¬ (t511 = t513) := by simpa using c37))
          clear c37
          have H' := zK H
          clear H
          obtain ⟨Ao38, co38, eo38⟩ := Kd.R_slice HO506.out
          subst eo38
          obtain ⟨Ao39, co39, eo39⟩ := Kd.R_slice HO510.out
          subst eo39
          go_wp2_with (first | (go_at_call 18; (with_reducible refine (laws_pSame.calls kj7 _ _ t503 _ _ t507 true _ ?side1 ?side2 ?side3 ?side4 A32.out).mono ?_); (case side1 => repeat (first | exact (Kd.R_reads' HO506.out).2.2 | (with_reducible refine Kd.C_alloc ?_ _) | (with_reducible refine Kd.C_drewN ?_ _) | (with_reducible refine Kd.C_drew ?_))); (case side2 => exact (Kd.R_reads' HO506.out).2.1); (case side3 => repeat (first | exact (Kd.R_reads' HO510.out).2.2 | (with_reducible refine Kd.C_alloc ?_ _) | (with_reducible refine Kd.C_drewN ?_ _) | (with_reducible refine Kd.C_drew ?_))); (case side4 => exact (Kd.R_reads' HO510.out).2.1); rintro e w' ⟨rfl, ⟨nd, rfl⟩⟩))
          go_meet
          case rel => exact ⟨_, (true), (by first | rfl | (simp; done) | (simp [*]; done)), H', ⟨by have := HJ7.out; first | omega | exact Nat.le_refl _⟩, ⟨by (with_reducible repeat (first | apply Kd.R_alloc | apply Kd.R_drewN | apply Kd.R_drew)); exact Kd.R_mono HO_5.out (fun _ hk => ⟨hk.1.1, hk.1.2⟩)⟩, ⟨by (with_reducible repeat (first | apply Kd.R_alloc | apply Kd.R_drewN | apply Kd.R_drew)); exact Kd.R_mono HO_7.out (fun _ hk => ⟨hk.1.1, hk.1.2⟩)⟩, ⟨by (with_reducible repeat (first | apply Kd.R_alloc | apply Kd.R_drewN | apply Kd.R_drew)); exact Kd.R_mono HO_8.out (fun _ hk => ⟨hk.1.1, hk.1.2⟩)⟩, ⟨by (with_reducible repeat (first | apply Kd.R_alloc | apply Kd.R_drewN | apply Kd.R_drew)); exact Kd.R_mono HO506.out (fun _ hk => trivial)⟩, ⟨by repeat (first | (with_reducible first | exact HB.out | apply zA | apply zB | apply zC) | exact HB.out)⟩⟩
         ·rw [if_neg c37] at H
          have c37b0 : (t511 != t513) = false := by simpa using c37
          (try (have c37b1 : decide (t511 = t513) = true := by simpa using c37))
          (try (have c37b2 : (t511 == t513) = true := by simpa using c37))
          clear c37
          have H' := zK H
          clear H
          obtain ⟨Ao40, co40, eo40⟩ := Kd.R_slice HO506.out
          subst eo40
          obtain ⟨Ao41, co41, eo41⟩ := Kd.R_slice HO510.out
          subst eo41
          go_wp2_with (first | (go_at_call 18; (with_reducible refine (laws_pSame.calls kj7 _ _ t503 _ _ t507 true _ ?side1 ?side2 ?side3 ?side4 A32.out).mono ?_); (case side1 => repeat (first | exact (Kd.R_reads' HO506.out).2.2 | (with_reducible refine Kd.C_alloc ?_ _) | (with_reducible refine Kd.C_drewN ?_ _) | (with_reducible refine Kd.C_drew ?_))); (case side2 => exact (Kd.R_reads' HO506.out).2.1); (case side3 => repeat (first | exact (Kd.R_reads' HO510.out).2.2 | (with_reducible refine Kd.C_alloc ?_ _) | (with_reducible refine Kd.C_drewN ?_ _) | (with_reducible refine Kd.C_drew ?_))); (case side4 => exact (Kd.R_reads' HO510.out).2.1); rintro e w' ⟨rfl, ⟨nd, rfl⟩⟩))
          go_meet
          case rel => exact ⟨_, ((t504 != t512)), (by first | rfl | (simp; done) | (simp [*]; done)), H', ⟨by have := HJ7.out; first | omega | exact Nat.le_refl _⟩, ⟨by (with_reducible repeat (first | apply Kd.R_alloc | apply Kd.R_drewN | apply Kd.R_drew)); exact Kd.R_mono HO_5.out (fun _ hk => ⟨hk.1.1, hk.1.2⟩)⟩, ⟨by (with_reducible repeat (first | apply Kd.R_alloc | apply Kd.R_drewN | apply Kd.R_drew)); exact Kd.R_mono HO_7.out (fun _ hk => ⟨hk.1.1, hk.1.2⟩)⟩, ⟨by (with_reducible repeat (first | apply Kd.R_alloc | apply Kd.R_drewN | apply Kd.R_drew)); exact Kd.R_mono HO_8.out (fun _ hk => ⟨hk.1.1, hk.1.2⟩)⟩, ⟨by (with_reducible repeat (first | apply Kd.R_alloc | apply Kd.R_drewN | apply Kd.R_drew)); exact Kd.R_mono HO506.out (fun _ hk => trivial)⟩, ⟨by repeat (first | (with_reducible first | exact HB.out | apply zA | apply zB | apply zC) | exact HB.out)⟩⟩
       ·replace c33 := Bool.eq_false_iff.mpr c33
        subst c33
        have H1 : (laws_FnInputsPut.j1 kj7 l0 l1 t484 t485 t486 t491 t496 t503 t511 true) = some r := by rw [if_neg (show ¬ (false = true) by decide)] at H; exact H
        clear H
        have H := H1
        clear H1
        have H' := zK H
        clear H
        obtain ⟨Ao42, co42, eo42⟩ := Kd.R_slice HO506.out
        subst eo42
        obtain ⟨Ao43, co43, eo43⟩ := Kd.R_slice HO510.out
        subst eo43
        go_wp2_with (first | (go_at_call 18; (with_reducible refine (laws_pSame.calls kj7 _ _ t503 _ _ t507 false _ ?side1 ?side2 ?side3 ?side4 A32.out).mono ?_); (case side1 => repeat (first | exact (Kd.R_reads' HO506.out).2.2 | (with_reducible refine Kd.C_alloc ?_ _) | (with_reducible refine Kd.C_drewN ?_ _) | (with_reducible refine Kd.C_drew ?_))); (case side2 => exact (Kd.R_reads' HO506.out).2.1); (case side3 => repeat (first | exact (Kd.R_reads' HO510.out).2.2 | (with_reducible refine Kd.C_alloc ?_ _) | (with_reducible refine Kd.C_drewN ?_ _) | (with_reducible refine Kd.C_drew ?_))); (case side4 => exact (Kd.R_reads' HO510.out).2.1); rintro e w' ⟨rfl, ⟨nd, rfl⟩⟩))
        go_meet
        case rel => exact ⟨_, (true), (by first | rfl | (simp; done) | (simp [*]; done)), H', ⟨by have := HJ7.out; first | omega | exact Nat.le_refl _⟩, ⟨by (with_reducible repeat (first | apply Kd.R_alloc | apply Kd.R_drewN | apply Kd.R_drew)); exact Kd.R_mono HO_5.out (fun _ hk => ⟨hk.1.1, hk.1.2⟩)⟩, ⟨by (with_reducible repeat (first | apply Kd.R_alloc | apply Kd.R_drewN | apply Kd.R_drew)); exact Kd.R_mono HO_7.out (fun _ hk => ⟨hk.1.1, hk.1.2⟩)⟩, ⟨by (with_reducible repeat (first | apply Kd.R_alloc | apply Kd.R_drewN | apply Kd.R_drew)); exact Kd.R_mono HO_8.out (fun _ hk => ⟨hk.1.1, hk.1.2⟩)⟩, ⟨by (with_reducible repeat (first | apply Kd.R_alloc | apply Kd.R_drewN | apply Kd.R_drew)); exact Kd.R_mono HO506.out (fun _ hk => trivial)⟩, ⟨by repeat (first | (with_reducible first | exact HB.out | apply zA | apply zB | apply zC) | exact HB.out)⟩⟩
     case rest =>
      clear HC24
      try clear c1
      try clear p2
      try clear c3
      try clear c4
      try clear c8
      try clear c9
      try clear c10
      try clear c11
      try clear c13
      try clear c14
      try clear c14b0
      try clear c14b1
      try clear c14b2
      try clear c15
      try clear c16
      try clear c17
      try clear c18
      try clear c31
      try clear c31b0
      try clear c31b1
      try clear c31b2
      try clear c33
      try clear c34
      try clear c34b0
      try clear c34b1
      try clear c34b2
      try clear c37
      try clear c37b0
      try clear c37b1
      try clear c37b2
      try clear p2
      obtain ⟨kq, x111_23, rfl, HA, HJ23, HO_5, HO_7, HO_8, HO_13, HB⟩ := hcut
      cases kq with
      | zero => exact absurd HA.out (by simp [laws_FnInputsPut.j1])
      | succ kj23 =>
       have H := HA.out
       clear HA
       simp only [laws_FnInputsPut.j1] at H
       by_cases c44 : x111_23 = true
       ·subst c44
        have H1 : (some false) = some r := by rw [if_pos rfl] at H; exact H
        clear H
        have H := H1
        clear H1
        exact absurd ((Option.some.inj H).trans hr) (by decide)
       ·replace c44 := Bool.eq_false_iff.mpr c44
        subst c44
        have H1 : (laws_FnInputsPut.l0 kj23 l0 l1 t484 t485 t486 t491 t496 t503 t511 t503 (t503.length : Int) 0) = some r := by rw [if_neg (show ¬ (false = true) by decide)] at H; exact H
        clear H
        have H := H1
        clear H1
        have H' := zK H
        clear H
        obtain ⟨Ao45, co45, eo45⟩ := Kd.R_slice HO_13.out
        subst eo45
        go_wp2
        go_loopg [114] kj23 (fun kq v114 w' => ∃ (x114_3 : Int), v114 = .int .i64 x114_3 ∧ Aside0 (laws_FnInputsPut.l0 kq l0 l1 t484 t485 t486 t491 t496 t503 t511 t503 (t503.length : Int) x114_3 = some r) ∧ Aside0 (kq ≤ kj23) ∧ Aside0 (Kd.R k47 47 w' w.heap.size (fun k_ => some k_ ≠ ((.slice Ao11 t486.length co11) : Value).ownBlock ∧ some k_ ≠ (v493 : Value).ownBlock) (.slice Ao10 t484.length co10) t484) ∧ Aside0 (Kd.R k47 47 w' w.heap.size (fun k_ => some k_ ≠ ((.slice Ao10 t484.length co10) : Value).ownBlock ∧ some k_ ≠ (v493 : Value).ownBlock) (.slice Ao11 t486.length co11) t486) ∧ Aside0 (Kd.R k47 47 w' w.heap.size (fun k_ => some k_ ≠ ((.slice Ao10 t484.length co10) : Value).ownBlock ∧ some k_ ≠ ((.slice Ao11 t486.length co11) : Value).ownBlock) v493 t491) ∧ Aside0 (Kd.R (Kd.int .i64) 3 w' w.heap.size (fun _ => True) (.slice Ao45 t503.length co45) t503) ∧ Aside0 (Kd.R (Kd.int .i64) 3 w' w.heap.size (fun _ => True) (.slice Ao45 t503.length co45) t503) ∧ Aside0 (Below w.heap.size w w'))
        case atStart => exact ⟨(0), (by first | rfl | (simp; done) | (simp [*]; done)), H', ⟨Nat.le_refl _⟩, ⟨by (with_reducible repeat (first | apply Kd.R_alloc | apply Kd.R_drewN | apply Kd.R_drew)); exact HO_5.out⟩, ⟨by (with_reducible repeat (first | apply Kd.R_alloc | apply Kd.R_drewN | apply Kd.R_drew)); exact HO_7.out⟩, ⟨by (with_reducible repeat (first | apply Kd.R_alloc | apply Kd.R_drewN | apply Kd.R_drew)); exact HO_8.out⟩, ⟨by (with_reducible repeat (first | apply Kd.R_alloc | apply Kd.R_drewN | apply Kd.R_drew)); exact HO_13.out⟩, ⟨by (with_reducible repeat (first | apply Kd.R_alloc | apply Kd.R_drewN | apply Kd.R_drew)); exact HO_13.out⟩, ⟨by repeat (first | (with_reducible first | exact HB.out | apply zA | apply zB | apply zC) | exact HB.out)⟩⟩
        case round =>
         clear H'
         try clear c1
         try clear p2
         try clear c3
         try clear c4
         try clear c8
         try clear c9
         try clear c10
         try clear c11
         try clear c13
         try clear c14
         try clear c14b0
         try clear c14b1
         try clear c14b2
         try clear c15
         try clear c16
         try clear c17
         try clear c18
         try clear c31
         try clear c31b0
         try clear c31b1
         try clear c31b2
         try clear c33
         try clear c34
         try clear c34b0
         try clear c34b1
         try clear c34b2
         try clear c37
         try clear c37b0
         try clear c37b1
         try clear c37b2
         try clear c44
         try clear p2
         obtain ⟨x114_3, rfl, HA, HK3, HO_5, HO_7, HO_8, HO_13, HO_112, HB⟩ := hrel
         cases gk with
         | zero => exact absurd HA.out (by simp [laws_FnInputsPut.l0])
         | succ k3 =>
          have H := HA.out
          clear HA
          simp only [laws_FnInputsPut.l0] at H
          by_cases c46 : x114_3 < (t503.length : Int)
          ·rw [if_pos c46] at H
           have c46b0 : decide (x114_3 < (t503.length : Int)) = true := decide_eq_true c46
           clear c46
           by_cases c47 : 0 ≤ x114_3
           ·rw [if_pos c47] at H
            have c47b0 : decide (0 ≤ x114_3) = true := decide_eq_true c47
            clear c47
            by_cases c48 : x114_3 < (t503.length : Int)
            ·rw [if_pos c48] at H
             have c48b0 : decide (x114_3 < (t503.length : Int)) = true := decide_eq_true c48
             clear c48
             by_cases c49 : x114_3 < (wrap64 ((t503.length : Int) - 1))
             ·rw [if_pos c49] at H
              have c49b0 : decide (x114_3 < (wrap64 ((t503.length : Int) - 1))) = true := decide_eq_true c49
              clear c49
              by_cases c50 : (rd t503 x114_3) = 0
              ·rw [if_pos c50] at H
               have c50b0 : ((rd t503 x114_3) == 0) = true := beq_iff_eq.mpr c50
               have c50b1 : ((rd t503 x114_3) != 0) = false := bne_eq_false_iff_eq.mpr c50
               clear c50
               exact absurd ((Option.some.inj H).trans hr) (by decide)
              ·rw [if_neg c50] at H
               have c50b0 : ((rd t503 x114_3) == 0) = false := beq_eq_false_iff_ne.mpr c50
               have c50b1 : ((rd t503 x114_3) != 0) = true := bne_iff_ne.mpr c50
               by_cases c51 : t511 = true
               ·subst c51
                have H1 : (if (rd t503 x114_3) > 1 then (some false) else (if x114_3 = (wrap64 ((t503.length : Int) - 1)) then (some false) else (laws_FnInputsPut.l0 k3 l0 l1 t484 t485 t486 t491 t496 t503 true t503 (t503.length : Int) (wrap64 (x114_3 + 1))))) = some r := by rw [if_pos rfl] at H; exact H
                clear H
                have H := H1
                clear H1
                by_cases c52 : (rd t503 x114_3) > 1
                ·rw [if_pos c52] at H
                 have c52b0 : decide (1 < (rd t503 x114_3)) = true := decide_eq_true c52
                 clear c52
                 exact absurd ((Option.some.inj H).trans hr) (by decide)
                ·rw [if_neg c52] at H
                 have c52b0 : decide (1 < (rd t503 x114_3)) = false := decide_eq_false c52
                 clear c52
                 by_cases c53 : x114_3 = (wrap64 ((t503.length : Int) - 1))
                 ·rw [if_pos c53] at H
                  have c53b0 : (x114_3 == (wrap64 ((t503.length : Int) - 1))) = true := beq_iff_eq.mpr c53
                  have c53b1 : (x114_3 != (wrap64 ((t503.length : Int) - 1))) = false := bne_eq_false_iff_eq.mpr c53
                  clear c53
                  exact absurd ((Option.some.inj H).trans hr) (by decide)
                 ·rw [if_neg c53] at H
                  have c53b0 : (x114_3 == (wrap64 ((t503.length : Int) - 1))) = false := beq_eq_false_iff_ne.mpr c53
                  have c53b1 : (x114_3 != (wrap64 ((t503.length : Int) - 1))) = true := bne_iff_ne.mpr c53
                  have H' := zK H
                  clear H
                  have p516 : 0 ≤ (x114_3 : Int) := zo
                  have q516 : x114_3 < (t503.length : Int) := zo
                  obtain ⟨ad516, e516, hx516_0⟩ := Kd.at_int (Kd.R_reads' HO_112.out).2.2 x114_3 p516 q516
                  cases e516
                  replace p516 := eq_true p516
                  replace q516 := eq_true q516
                  go_wp2
                  go_roundg k3
                  case measure => have := HJ7.out; have := HJ23.out; have := HK3.out; omega
                  case rel => exact ⟨(wrap64 (x114_3 + 1)), (by first | rfl | (simp; done) | (simp [*]; done)), H', ⟨by have := HJ7.out; have := HJ23.out; have := HK3.out; omega⟩, ⟨by (with_reducible repeat (first | apply Kd.R_alloc | apply Kd.R_drewN | apply Kd.R_drew)); exact HO_5.out⟩, ⟨by (with_reducible repeat (first | apply Kd.R_alloc | apply Kd.R_drewN | apply Kd.R_drew)); exact HO_7.out⟩, ⟨by (with_reducible repeat (first | apply Kd.R_alloc | apply Kd.R_drewN | apply Kd.R_drew)); exact HO_8.out⟩, ⟨by (with_reducible repeat (first | apply Kd.R_alloc | apply Kd.R_drewN | apply Kd.R_drew)); exact HO_13.out⟩, ⟨by (with_reducible repeat (first | apply Kd.R_alloc | apply Kd.R_drewN | apply Kd.R_drew)); exact HO_112.out⟩, ⟨by repeat (first | (with_reducible first | exact HB.out | apply zA | apply zB | apply zC) | exact HB.out)⟩⟩
               ·replace c51 := Bool.eq_false_iff.mpr c51
                subst c51
                have H1 : (if x114_3 = (wrap64 ((t503.length : Int) - 1)) then (some false) else (laws_FnInputsPut.l0 k3 l0 l1 t484 t485 t486 t491 t496 t503 false t503 (t503.length : Int) (wrap64 (x114_3 + 1)))) = some r := by rw [if_neg (show ¬ (false = true) by decide)] at H; exact H
                clear H
                have H := H1
                clear H1
                by_cases c54 : x114_3 = (wrap64 ((t503.length : Int) - 1))
                ·rw [if_pos c54] at H
                 have c54b0 : (x114_3 == (wrap64 ((t503.length : Int) - 1))) = true := beq_iff_eq.mpr c54
                 have c54b1 : (x114_3 != (wrap64 ((t503.length : Int) - 1))) = false := bne_eq_false_iff_eq.mpr c54
                 clear c54
                 exact absurd ((Option.some.inj H).trans hr) (by decide)
                ·rw [if_neg c54] at H
                 have c54b0 : (x114_3 == (wrap64 ((t503.length : Int) - 1))) = false := beq_eq_false_iff_ne.mpr c54
                 have c54b1 : (x114_3 != (wrap64 ((t503.length : Int) - 1))) = true := bne_iff_ne.mpr c54
                 have H' := zK H
                 clear H
                 have p516 : 0 ≤ (x114_3 : Int) := zo
                 have q516 : x114_3 < (t503.length : Int) := zo
                 obtain ⟨ad516, e516, hx516_0⟩ := Kd.at_int (Kd.R_reads' HO_112.out).2.2 x114_3 p516 q516
                 cases e516
                 replace p516 := eq_true p516
                 replace q516 := eq_true q516
                 go_wp2
                 go_roundg k3
                 case measure => have := HJ7.out; have := HJ23.out; have := HK3.out; omega
                 case rel => exact ⟨(wrap64 (x114_3 + 1)), (by first | rfl | (simp; done) | (simp [*]; done)), H', ⟨by have := HJ7.out; have := HJ23.out; have := HK3.out; omega⟩, ⟨by (with_reducible repeat (first | apply Kd.R_alloc | apply Kd.R_drewN | apply Kd.R_drew)); exact HO_5.out⟩, ⟨by (with_reducible repeat (first | apply Kd.R_alloc | apply Kd.R_drewN | apply Kd.R_drew)); exact HO_7.out⟩, ⟨by (with_reducible repeat (first | apply Kd.R_alloc | apply Kd.R_drewN | apply Kd.R_drew)); exact HO_8.out⟩, ⟨by (with_reducible repeat (first | apply Kd.R_alloc | apply Kd.R_drewN | apply Kd.R_drew)); exact HO_13.out⟩, ⟨by (with_reducible repeat (first | apply Kd.R_alloc | apply Kd.R_drewN | apply Kd.R_drew)); exact HO_112.out⟩, ⟨by repeat (first | (with_reducible first | exact HB.out | apply zA | apply zB | apply zC) | exact HB.out)⟩⟩
             ·rw [if_neg c49] at H
              have c49b0 : decide (x114_3 < (wrap64 ((t503.length : Int) - 1))) = false := decide_eq_false c49
              clear c49
              by_cases c55 : t511 = true
              ·subst c55
               have H1 : (if (rd t503 x114_3) > 1 then (some false) else (if x114_3 = (wrap64 ((t503.length : Int) - 1)) then (if (rd t503 x114_3) = 0 then (laws_FnInputsPut.l0 k3 l0 l1 t484 t485 t486 t491 t496 t503 true t503 (t503.length : Int) (wrap64 (x114_3 + 1))) else (some false)) else (laws_FnInputsPut.l0 k3 l0 l1 t484 t485 t486 t491 t496 t503 true t503 (t503.length : Int) (wrap64 (x114_3 + 1))))) = some r := by rw [if_pos rfl] at H; exact H
               clear H
               have H := H1
               clear H1
               by_cases c56 : (rd t503 x114_3) > 1
               ·rw [if_pos c56] at H
                have c56b0 : decide (1 < (rd t503 x114_3)) = true := decide_eq_true c56
                clear c56
                exact absurd ((Option.some.inj H).trans hr) (by decide)
               ·rw [if_neg c56] at H
                have c56b0 : decide (1 < (rd t503 x114_3)) = false := decide_eq_false c56
                clear c56
                by_cases c57 : x114_3 = (wrap64 ((t503.length : Int) - 1))
                ·rw [if_pos c57] at H
                 have c57b0 : (x114_3 == (wrap64 ((t503.length : Int) - 1))) = true := beq_iff_eq.mpr c57
                 have c57b1 : (x114_3 != (wrap64 ((t503.length : Int) - 1))) = false := bne_eq_false_iff_eq.mpr c57
                 clear c57
                 by_cases c58 : (rd t503 x114_3) = 0
                 ·rw [if_pos c58] at H
                  have c58b0 : ((rd t503 x114_3) == 0) = true := beq_iff_eq.mpr c58
                  have c58b1 : ((rd t503 x114_3) != 0) = false := bne_eq_false_iff_eq.mpr c58
                  clear c58
                  have H' := zK H
                  clear H
                  have p516 : 0 ≤ (x114_3 : Int) := zo
                  have q516 : x114_3 < (t503.length : Int) := zo
                  obtain ⟨ad516, e516, hx516_0⟩ := Kd.at_int (Kd.R_reads' HO_112.out).2.2 x114_3 p516 q516
                  cases e516
                  replace p516 := eq_true p516
                  replace q516 := eq_true q516
                  go_wp2
                  go_roundg k3
                  case measure => have := HJ7.out; have := HJ23.out; have := HK3.out; omega
                  case rel => exact ⟨(wrap64 (x114_3 + 1)), (by first | rfl | (simp; done) | (simp [*]; done)), H', ⟨by have := HJ7.out; have := HJ23.out; have := HK3.out; omega⟩, ⟨by (with_reducible repeat (first | apply Kd.R_alloc | apply Kd.R_drewN | apply Kd.R_drew)); exact HO_5.out⟩, ⟨by (with_reducible repeat (first | apply Kd.R_alloc | apply Kd.R_drewN | apply Kd.R_drew)); exact HO_7.out⟩, ⟨by (with_reducible repeat (first | apply Kd.R_alloc | apply Kd.R_drewN | apply Kd.R_drew)); exact HO_8.out⟩, ⟨by (with_reducible repeat (first | apply Kd.R_alloc | apply Kd.R_drewN | apply Kd.R_drew)); exact HO_13.out⟩, ⟨by (with_reducible repeat (first | apply Kd.R_alloc | apply Kd.R_drewN | apply Kd.R_drew)); exact HO_112.out⟩, ⟨by repeat (first | (with_reducible first | exact HB.out | apply zA | apply zB | apply zC) | exact HB.out)⟩⟩
                 ·rw [if_neg c58] at H
                  have c58b0 : ((rd t503 x114_3) == 0) = false := beq_eq_false_iff_ne.mpr c58
                  have c58b1 : ((rd t503 x114_3) != 0) = true := bne_iff_ne.mpr c58
                  exact absurd ((Option.some.inj H).trans hr) (by decide)
                ·rw [if_neg c57] at H
                 have c57b0 : (x114_3 == (wrap64 ((t503.length : Int) - 1))) = false := beq_eq_false_iff_ne.mpr c57
                 have c57b1 : (x114_3 != (wrap64 ((t503.length : Int) - 1))) = true := bne_iff_ne.mpr c57
                 have H' := zK H
                 clear H
                 have p516 : 0 ≤ (x114_3 : Int) := zo
                 have q516 : x114_3 < (t503.length : Int) := zo
                 obtain ⟨ad516, e516, hx516_0⟩ := Kd.at_int (Kd.R_reads' HO_112.out).2.2 x114_3 p516 q516
                 cases e516
                 replace p516 := eq_true p516
                 replace q516 := eq_true q516
                 go_wp2
                 go_roundg k3
                 case measure => have := HJ7.out; have := HJ23.out; have := HK3.out; omega
                 case rel => exact ⟨(wrap64 (x114_3 + 1)), (by first | rfl | (simp; done) | (simp [*]; done)), H', ⟨by have := HJ7.out; have := HJ23.out; have := HK3.out; omega⟩, ⟨by (with_reducible repeat (first | apply Kd.R_alloc | apply Kd.R_drewN | apply Kd.R_drew)); exact HO_5.out⟩, ⟨by (with_reducible repeat (first | apply Kd.R_alloc | apply Kd.R_drewN | apply Kd.R_drew)); exact HO_7.out⟩, ⟨by (with_reducible repeat (first | apply Kd.R_alloc | apply Kd.R_drewN | apply Kd.R_drew)); exact HO_8.out⟩, ⟨by (with_reducible repeat (first | apply Kd.R_alloc | apply Kd.R_drewN | apply Kd.R_drew)); exact HO_13.out⟩, ⟨by (with_reducible repeat (first | apply Kd.R_alloc | apply Kd.R_drewN | apply Kd.R_drew)); exact HO_112.out⟩, ⟨by repeat (first | (with_reducible first | exact HB.out | apply zA | apply zB | apply zC) | exact HB.out)⟩⟩
              ·replace c55 := Bool.eq_false_iff.mpr c55
               subst c55
               have H1 : (if x114_3 = (wrap64 ((t503.length : Int) - 1)) then (if (rd t503 x114_3) = 0 then (laws_FnInputsPut.l0 k3 l0 l1 t484 t485 t486 t491 t496 t503 false t503 (t503.length : Int) (wrap64 (x114_3 + 1))) else (some false)) else (laws_FnInputsPut.l0 k3 l0 l1 t484 t485 t486 t491 t496 t503 false t503 (t503.length : Int) (wrap64 (x114_3 + 1)))) = some r := by rw [if_neg (show ¬ (false = true) by decide)] at H; exact H
               clear H
               have H := H1
               clear H1
               by_cases c59 : x114_3 = (wrap64 ((t503.length : Int) - 1))
               ·rw [if_pos c59] at H
                have c59b0 : (x114_3 == (wrap64 ((t503.length : Int) - 1))) = true := beq_iff_eq.mpr c59
                have c59b1 : (x114_3 != (wrap64 ((t503.length : Int) - 1))) = false := bne_eq_false_iff_eq.mpr c59
                clear c59
                by_cases c60 : (rd t503 x114_3) = 0
                ·rw [if_pos c60] at H
                 have c60b0 : ((rd t503 x114_3) == 0) = true := beq_iff_eq.mpr c60
                 have c60b1 : ((rd t503 x114_3) != 0) = false := bne_eq_false_iff_eq.mpr c60
                 clear c60
                 have H' := zK H
                 clear H
                 have p516 : 0 ≤ (x114_3 : Int) := zo
                 have q516 : x114_3 < (t503.length : Int) := zo
                 obtain ⟨ad516, e516, hx516_0⟩ := Kd.at_int (Kd.R_reads' HO_112.out).2.2 x114_3 p516 q516
                 cases e516
                 replace p516 := eq_true p516
                 replace q516 := eq_true q516
                 go_wp2
                 go_roundg k3
                 case measure => have := HJ7.out; have := HJ23.out; have := HK3.out; omega
                 case rel => exact ⟨(wrap64 (x114_3 + 1)), (by first | rfl | (simp; done) | (simp [*]; done)), H', ⟨by have := HJ7.out; have := HJ23.out; have := HK3.out; omega⟩, ⟨by (with_reducible repeat (first | apply Kd.R_alloc | apply Kd.R_drewN | apply Kd.R_drew)); exact HO_5.out⟩, ⟨by (with_reducible repeat (first | apply Kd.R_alloc | apply Kd.R_drewN | apply Kd.R_drew)); exact HO_7.out⟩, ⟨by (with_reducible repeat (first | apply Kd.R_alloc | apply Kd.R_drewN | apply Kd.R_drew)); exact HO_8.out⟩, ⟨by (with_reducible repeat (first | apply Kd.R_alloc | apply Kd.R_drewN | apply Kd.R_drew)); exact HO_13.out⟩, ⟨by (with_reducible repeat (first | apply Kd.R_alloc | apply Kd.R_drewN | apply Kd.R_drew)); exact HO_112.out⟩, ⟨by repeat (first | (with_reducible first | exact HB.out | apply zA | apply zB | apply zC) | exact HB.out)⟩⟩
                ·rw [if_neg c60] at H
                 have c60b0 : ((rd t503 x114_3) == 0) = false := beq_eq_false_iff_ne.mpr c60
                 have c60b1 : ((rd t503 x114_3) != 0) = true := bne_iff_ne.mpr c60
                 exact absurd ((Option.some.inj H).trans hr) (by decide)
               ·rw [if_neg c59] at H
                have c59b0 : (x114_3 == (wrap64 ((t503.length : Int) - 1))) = false := beq_eq_false_iff_ne.mpr c59
                have c59b1 : (x114_3 != (wrap64 ((t503.length : Int) - 1))) = true := bne_iff_ne.mpr c59
                have H' := zK H
                clear H
                have p516 : 0 ≤ (x114_3 : Int) := zo
                have q516 : x114_3 < (t503.length : Int) := zo
                obtain ⟨ad516, e516, hx516_0⟩ := Kd.at_int (Kd.R_reads' HO_112.out).2.2 x114_3 p516 q516
                cases e516
                replace p516 := eq_true p516
                replace q516 := eq_true q516
                go_wp2
                go_roundg k3
                case measure => have := HJ7.out; have := HJ23.out; have := HK3.out; omega
                case rel => exact ⟨(wrap64 (x114_3 + 1)), (by first | rfl | (simp; done) | (simp [*]; done)), H', ⟨by have := HJ7.out; have := HJ23.out; have := HK3.out; omega⟩, ⟨by (with_reducible repeat (first | apply Kd.R_alloc | apply Kd.R_drewN | apply Kd.R_drew)); exact HO_5.out⟩, ⟨by (with_reducible repeat (first | apply Kd.R_alloc | apply Kd.R_drewN | apply Kd.R_drew)); exact HO_7.out⟩, ⟨by (with_reducible repeat (first | apply Kd.R_alloc | apply Kd.R_drewN | apply Kd.R_drew)); exact HO_8.out⟩, ⟨by (with_reducible repeat (first | apply Kd.R_alloc | apply Kd.R_drewN | apply Kd.R_drew)); exact HO_13.out⟩, ⟨by (with_reducible repeat (first | apply Kd.R_alloc | apply Kd.R_drewN | apply Kd.R_drew)); exact HO_112.out⟩, ⟨by repeat (first | (with_reducible first | exact HB.out | apply zA | apply zB | apply zC) | exact HB.out)⟩⟩
            ·rw [if_neg c48] at H
             exact absurd H (by simp)
           ·rw [if_neg c47] at H
            exact absurd H (by simp)
          ·rw [if_neg c46] at H
           have c46b0 : decide (x114_3 < (t503.length : Int)) = false := decide_eq_false c46
           clear c46
           by_cases c61 : t496 = true
           ·subst c61
            have H1 : (laws_FnInputsPut.l1 k3 l0 l1 t484 t485 t486 t491 0) = some r := by rw [if_pos rfl] at H; exact H
            clear H
            have H := H1
            clear H1
            have H' := zK H
            clear H
            go_wp2
            go_loopg [23] k3 (fun kq v23 w' => ∃ (x23_4 : Int), v23 = .int .i64 x23_4 ∧ Aside0 (laws_FnInputsPut.l1 kq l0 l1 t484 t485 t486 t491 x23_4 = some r) ∧ Aside0 (kq ≤ k3) ∧ Aside0 (Kd.R k47 47 w' w.heap.size (fun k_ => some k_ ≠ ((.slice Ao11 t486.length co11) : Value).ownBlock ∧ some k_ ≠ (v493 : Value).ownBlock) (.slice Ao10 t484.length co10) t484) ∧ Aside0 (Kd.R k47 47 w' w.heap.size (fun k_ => some k_ ≠ ((.slice Ao10 t484.length co10) : Value).ownBlock ∧ some k_ ≠ (v493 : Value).ownBlock) (.slice Ao11 t486.length co11) t486) ∧ Aside0 (Kd.R k47 47 w' w.heap.size (fun k_ => some k_ ≠ ((.slice Ao10 t484.length co10) : Value).ownBlock ∧ some k_ ≠ ((.slice Ao11 t486.length co11) : Value).ownBlock) v493 t491) ∧ Aside0 (Below w.heap.size w w'))
            case atStart => exact ⟨(0), (by first | rfl | (simp; done) | (simp [*]; done)), H', ⟨Nat.le_refl _⟩, ⟨by (with_reducible repeat (first | apply Kd.R_alloc | apply Kd.R_drewN | apply Kd.R_drew)); exact HO_5.out⟩, ⟨by (with_reducible repeat (first | apply Kd.R_alloc | apply Kd.R_drewN | apply Kd.R_drew)); exact HO_7.out⟩, ⟨by (with_reducible repeat (first | apply Kd.R_alloc | apply Kd.R_drewN | apply Kd.R_drew)); exact HO_8.out⟩, ⟨by repeat (first | (with_reducible first | exact HB.out | apply zA | apply zB | apply zC) | exact HB.out)⟩⟩
            case round =>
             clear H'
             try clear c1
             try clear p2
             try clear c3
             try clear c4
             try clear c5
             try clear p5
             try clear q5
             try clear hx5
             try clear c6
             try clear p6
             try clear c8
             try clear c9
             try clear c10
             try clear c11
             try clear c13
             try clear c14
             try clear c14b0
             try clear c14b1
             try clear c14b2
             try clear c15
             try clear c16
             try clear c17
             try clear c18
             try clear c31
             try clear c31b0
             try clear c31b1
             try clear c31b2
             try clear c33
             try clear c34
             try clear c34b0
             try clear c34b1
             try clear c34b2
             try clear c37
             try clear c37b0
             try clear c37b1
             try clear c37b2
             try clear c44
             try clear c46
             try clear c46b0
             try clear c47
             try clear c47b0
             try clear c48
             try clear c48b0
             try clear c49
             try clear c49b0
             try clear c50
             try clear c50b0
             try clear c50b1
             try clear c51
             try clear p51
             try clear q51
             try clear hx51
             try clear c52
             try clear c52b0
             try clear c53
             try clear c53b0
             try clear c53b1
             try clear c54
             try clear c54b0
             try clear c54b1
             try clear c55
             try clear c56
             try clear c56b0
             try clear c57
             try clear c57b0
             try clear c57b1
             try clear c58
             try clear c58b0
             try clear c58b1
             try clear c59
             try clear c59b0
             try clear c59b1
             try clear c60
             try clear c60b0
             try clear c60b1
             try clear c61
             try clear hx516_0
             try clear p2
             try clear p516
             try clear q516
             obtain ⟨x23_4, rfl, HA, HK4, HO_5, HO_7, HO_8, HB⟩ := hrel
             cases gk with
             | zero => exact absurd HA.out (by simp [laws_FnInputsPut.l1])
             | succ k4 =>
              have H := HA.out
              clear HA
              simp only [laws_FnInputsPut.l1] at H
              by_cases c62 : x23_4 < 64
              ·rw [if_pos c62] at H
               have c62b0 : decide (x23_4 < 64) = true := decide_eq_true c62
               clear c62
               replace H := Option.bind_eq_some_iff.mp H
               obtain ⟨⟨t518, t519⟩, A630, H⟩ := H
               replace H : ((impl_EvalExpr.f k4 t491 (Int.tmod (wrap64 ((wrap64 (x23_4 * 37)) + (l0.length : Int))) 64) (Int.tmod (wrap64 ((wrap64 (x23_4 * 11)) + (l1.length : Int))) 64)).bind fun bt520 => (if t485 = 1 then ((impl_EvalExpr.f k4 t484 (Int.tmod (wrap64 ((wrap64 (x23_4 * 37)) + (l0.length : Int))) 64) t518).bind fun bt522 => (if t519 = true then (if bt520.2 = true then (if bt522.2 = true then (if bt520.1 = bt522.1 then (laws_FnInputsPut.l1 k4 l0 l1 t484 t485 t486 t491 (wrap64 (x23_4 + 1))) else (some false)) else (some false)) else (some false)) else (some false))) else ((impl_EvalExpr.f k4 t484 t518 (Int.tmod (wrap64 ((wrap64 (x23_4 * 11)) + (l1.length : Int))) 64)).bind fun bt524 => (if t519 = true then (if bt520.2 = true then (if bt524.2 = true then (if bt520.1 = bt524.1 then (laws_FnInputsPut.l1 k4 l0 l1 t484 t485 t486 t491 (wrap64 (x23_4 + 1))) else (some false)) else (some false)) else (some false)) else (some false))))) = some r := H
               have A63 := zK A630
               clear A630
               replace H := Option.bind_eq_some_iff.mp H
               obtain ⟨⟨t520, t521⟩, A640, H⟩ := H
               replace H : (if t485 = 1 then ((impl_EvalExpr.f k4 t484 (Int.tmod (wrap64 ((wrap64 (x23_4 * 37)) + (l0.length : Int))) 64) t518).bind fun bt522 => (if t519 = true then (if t521 = true then (if bt522.2 = true then (if t520 = bt522.1 then (laws_FnInputsPut.l1 k4 l0 l1 t484 t485 t486 t491 (wrap64 (x23_4 + 1))) else (some false)) else (some false)) else (some false)) else (some false))) else ((impl_EvalExpr.f k4 t484 t518 (Int.tmod (wrap64 ((wrap64 (x23_4 * 11)) + (l1.length : Int))) 64)).bind fun bt524 => (if t519 = true then (if t521 = true then (if bt524.2 = true then (if t520 = bt524.1 then (laws_FnInputsPut.l1 k4 l0 l1 t484 t485 t486 t491 (wrap64 (x23_4 + 1))) else (some false)) else (some false)) else (some false)) else (some false)))) = some r := H
               have A64 := zK A640
               clear A640
               by_cases c65 : t485 = 1
               ·rw [if_pos c65] at H
                have c65b0 : (t485 == 1) = true := beq_iff_eq.mpr c65
                have c65b1 : (t485 != 1) = false := bne_eq_false_iff_eq.mpr c65
                clear c65
                replace H := Option.bind_eq_some_iff.mp H
                obtain ⟨⟨t522, t523⟩, A660, H⟩ := H
                replace H : (if t519 = true then (if t521 = true then (if t523 = true then (if t520 = t522 then (laws_FnInputsPut.l1 k4 l0 l1 t484 t485 t486 t491 (wrap64 (x23_4 + 1))) else (some false)) else (some false)) else (some false)) else (some false)) = some r := H
                have A66 := zK A660
                clear A660
                by_cases c67 : t519 = true
                ·subst c67
                 have H1 : (if t521 = true then (if t523 = true then (if t520 = t522 then (laws_FnInputsPut.l1 k4 l0 l1 t484 t485 t486 t491 (wrap64 (x23_4 + 1))) else (some false)) else (some false)) else (some false)) = some r := by rw [if_pos rfl] at H; exact H
                 clear H
                 have H := H1
                 clear H1
                 by_cases c68 : t521 = true
                 ·subst c68
                  have H1 : (if t523 = true then (if t520 = t522 then (laws_FnInputsPut.l1 k4 l0 l1 t484 t485 t486 t491 (wrap64 (x23_4 + 1))) else (some false)) else (some false)) = some r := by rw [if_pos rfl] at H; exact H
                  clear H
                  have H := H1
                  clear H1
                  by_cases c69 : t523 = true
                  ·subst c69
                   have H1 : (if t520 = t522 then (laws_FnInputsPut.l1 k4 l0 l1 t484 t485 t486 t491 (wrap64 (x23_4 + 1))) else (some false)) = some r := by rw [if_pos rfl] at H; exact H
                   clear H
                   have H := H1
                   clear H1
                   by_cases c70 : t520 = t522
                   ·rw [if_pos c70] at H
                    have c70b0 : (t520 == t522) = true := beq_iff_eq.mpr c70
                    have c70b1 : (t520 != t522) = false := bne_eq_false_iff_eq.mpr c70
                    clear c70
                    have H' := zK H
                    clear H
                    go_wp2_with (first | ((with_reducible refine gate_callee (f := 19) rfl ?_); refine goesL_ (some 169) rfl rfl Try.func19 (by kernel_rfl) rfl #[.slice Ao11 t486.length co11, .int .i64 (Int.tmod (wrap64 ((wrap64 (x23_4 * 37)) + (l0.length : Int))) 64), .int .i64 (Int.tmod (wrap64 ((wrap64 (x23_4 * 11)) + (l1.length : Int))) 64)] rfl (by (try simp only [z6, z7, z8]); first | done | rfl | (simp only [z4, z5]; rfl)) ?_; (with_reducible refine (impl_EvalExpr.calls k4 _ _ t486 (Int.tmod (wrap64 ((wrap64 (x23_4 * 37)) + (l0.length : Int))) 64) (Int.tmod (wrap64 ((wrap64 (x23_4 * 11)) + (l1.length : Int))) 64) t518 true _ ?side1 ?side2 A63.out).mono ?_); (case side1 => repeat (first | exact (Kd.R_reads' HO_7.out).2.2 | (with_reducible refine Kd.C_alloc ?_ _) | (with_reducible refine Kd.C_drewN ?_ _) | (with_reducible refine Kd.C_drew ?_))); (case side2 => exact (Kd.R_reads' HO_7.out).2.1); rintro e w71 ⟨rfl, hb⟩; refine ⟨_, rfl, ?_⟩; have n0_ := zK (Kd.R_below (by (with_reducible repeat (first | apply Kd.R_alloc | apply Kd.R_drewN | apply Kd.R_drew)); exact HO_5.out) hb); have n1_ := zK (Kd.R_below (by (with_reducible repeat (first | apply Kd.R_alloc | apply Kd.R_drewN | apply Kd.R_drew)); exact HO_7.out) hb); have n2_ := zK (Kd.R_below (by (with_reducible repeat (first | apply Kd.R_alloc | apply Kd.R_drewN | apply Kd.R_drew)); exact HO_8.out) hb); have n3_ := zK (zL (by repeat (first | (with_reducible first | exact HB.out | apply zA | apply zB | apply zC) | exact HB.out)) hb); clear HO_5; clear HO_7; clear HO_8; clear HB; have HO_5 := n0_; have HO_7 := n1_; have HO_8 := n2_; have HB := n3_; clear n0_ n1_ n2_ n3_; (try clear hb); (try clear hb2); (try clear hk); (try clear hi); obtain ⟨Ao72, co72, eo72⟩ := Kd.R_slice HO_8.out; subst eo72) | ((with_reducible refine gate_callee (f := 19) rfl ?_); refine goesL_ (some 176) rfl rfl Try.func19 (by kernel_rfl) rfl #[.slice Ao72 t491.length co72, .int .i64 (Int.tmod (wrap64 ((wrap64 (x23_4 * 37)) + (l0.length : Int))) 64), .int .i64 (Int.tmod (wrap64 ((wrap64 (x23_4 * 11)) + (l1.length : Int))) 64)] rfl (by (try simp only [z6, z7, z8]); first | done | rfl | (simp only [z4, z5]; rfl)) ?_; (with_reducible refine (impl_EvalExpr.calls k4 _ _ t491 (Int.tmod (wrap64 ((wrap64 (x23_4 * 37)) + (l0.length : Int))) 64) (Int.tmod (wrap64 ((wrap64 (x23_4 * 11)) + (l1.length : Int))) 64) t520 true _ ?side1 ?side2 A64.out).mono ?_); (case side1 => repeat (first | exact (Kd.R_reads' HO_8.out).2.2 | (with_reducible refine Kd.C_alloc ?_ _) | (with_reducible refine Kd.C_drewN ?_ _) | (with_reducible refine Kd.C_drew ?_))); (case side2 => exact (Kd.R_reads' HO_8.out).2.1); rintro e w73 ⟨rfl, hb⟩; refine ⟨_, rfl, ?_⟩; have n0_ := zK (Kd.R_below (by (with_reducible repeat (first | apply Kd.R_alloc | apply Kd.R_drewN | apply Kd.R_drew)); exact HO_5.out) hb); have n1_ := zK (Kd.R_below (by (with_reducible repeat (first | apply Kd.R_alloc | apply Kd.R_drewN | apply Kd.R_drew)); exact HO_7.out) hb); have n2_ := zK (Kd.R_below (by (with_reducible repeat (first | apply Kd.R_alloc | apply Kd.R_drewN | apply Kd.R_drew)); exact HO_8.out) hb); have n3_ := zK (zL (by repeat (first | (with_reducible first | exact HB.out | apply zA | apply zB | apply zC) | exact HB.out)) hb); clear HO_5; clear HO_7; clear HO_8; clear HB; have HO_5 := n0_; have HO_7 := n1_; have HO_8 := n2_; have HB := n3_; clear n0_ n1_ n2_ n3_; (try clear hb); (try clear hb2); (try clear hk); (try clear hi)) | ((with_reducible refine gate_callee (f := 19) rfl ?_); refine goesL_ (some 189) rfl rfl Try.func19 (by kernel_rfl) rfl #[.slice Ao10 t484.length co10, .int .i64 (Int.tmod (wrap64 ((wrap64 (x23_4 * 37)) + (l0.length : Int))) 64), .int .i64 t518] rfl (by (try simp only [z6, z7, z8]); first | done | rfl | (simp only [z4, z5]; rfl)) ?_; (with_reducible refine (impl_EvalExpr.calls k4 _ _ t484 (Int.tmod (wrap64 ((wrap64 (x23_4 * 37)) + (l0.length : Int))) 64) t518 t522 true _ ?side1 ?side2 A66.out).mono ?_); (case side1 => repeat (first | exact (Kd.R_reads' HO_5.out).2.2 | (with_reducible refine Kd.C_alloc ?_ _) | (with_reducible refine Kd.C_drewN ?_ _) | (with_reducible refine Kd.C_drew ?_))); (case side2 => exact (Kd.R_reads' HO_5.out).2.1); rintro e w74 ⟨rfl, hb⟩; refine ⟨_, rfl, ?_⟩; have n0_ := zK (Kd.R_below (by (with_reducible repeat (first | apply Kd.R_alloc | apply Kd.R_drewN | apply Kd.R_drew)); exact HO_5.out) hb); have n1_ := zK (Kd.R_below (by (with_reducible repeat (first | apply Kd.R_alloc | apply Kd.R_drewN | apply Kd.R_drew)); exact HO_7.out) hb); have n2_ := zK (Kd.R_below (by (with_reducible repeat (first | apply Kd.R_alloc | apply Kd.R_drewN | apply Kd.R_drew)); exact HO_8.out) hb); have n3_ := zK (zL (by repeat (first | (with_reducible first | exact HB.out | apply zA | apply zB | apply zC) | exact HB.out)) hb); clear HO_5; clear HO_7; clear HO_8; clear HB; have HO_5 := n0_; have HO_7 := n1_; have HO_8 := n2_; have HB := n3_; clear n0_ n1_ n2_ n3_; (try clear hb); (try clear hb2); (try clear hk); (try clear hi)))
                    go_roundg k4
                    case measure => have := HJ7.out; have := HJ23.out; have := HK3.out; have := HK4.out; omega
                    case rel => exact ⟨(wrap64 (x23_4 + 1)), (by first | rfl | (simp; done) | (simp [*]; done)), H', ⟨by have := HJ7.out; have := HJ23.out; have := HK3.out; have := HK4.out; omega⟩, ⟨by (with_reducible repeat (first | apply Kd.R_alloc | apply Kd.R_drewN | apply Kd.R_drew)); exact HO_5.out⟩, ⟨by (with_reducible repeat (first | apply Kd.R_alloc | apply Kd.R_drewN | apply Kd.R_drew)); exact HO_7.out⟩, ⟨by (with_reducible repeat (first | apply Kd.R_alloc | apply Kd.R_drewN | apply Kd.R_drew)); exact HO_8.out⟩, ⟨by repeat (first | (with_reducible first | exact HB.out | apply zA | apply zB | apply zC) | exact HB.out)⟩⟩
                   ·rw [if_neg c70] at H
                    have c70b0 : (t520 == t522) = false := beq_eq_false_iff_ne.mpr c70
                    have c70b1 : (t520 != t522) = true := bne_iff_ne.mpr c70
                    exact absurd ((Option.some.inj H).trans hr) (by decide)
                  ·replace c69 := Bool.eq_false_iff.mpr c69
                   subst c69
                   have H1 : (some false) = some r := by rw [if_neg (show ¬ (false = true) by decide)] at H; exact H
                   clear H
                   have H := H1
                   clear H1
                   exact absurd ((Option.some.inj H).trans hr) (by decide)
                 ·replace c68 := Bool.eq_false_iff.mpr c68
                  subst c68
                  have H1 : (some false) = some r := by rw [if_neg (show ¬ (false = true) by decide)] at H; exact H
                  clear H
                  have H := H1
                  clear H1
                  exact absurd ((Option.some.inj H).trans hr) (by decide)
                ·replace c67 := Bool.eq_false_iff.mpr c67
                 subst c67
                 have H1 : (some false) = some r := by rw [if_neg (show ¬ (false = true) by decide)] at H; exact H
                 clear H
                 have H := H1
                 clear H1
                 exact absurd ((Option.some.inj H).trans hr) (by decide)
               ·rw [if_neg c65] at H
                have c65b0 : (t485 == 1) = false := beq_eq_false_iff_ne.mpr c65
                have c65b1 : (t485 != 1) = true := bne_iff_ne.mpr c65
                replace H := Option.bind_eq_some_iff.mp H
                obtain ⟨⟨t524, t525⟩, A910, H⟩ := H
                replace H : (if t519 = true then (if t521 = true then (if t525 = true then (if t520 = t524 then (laws_FnInputsPut.l1 k4 l0 l1 t484 t485 t486 t491 (wrap64 (x23_4 + 1))) else (some false)) else (some false)) else (some false)) else (some false)) = some r := H
                have A91 := zK A910
                clear A910
                by_cases c92 : t519 = true
                ·subst c92
                 have H1 : (if t521 = true then (if t525 = true then (if t520 = t524 then (laws_FnInputsPut.l1 k4 l0 l1 t484 t485 t486 t491 (wrap64 (x23_4 + 1))) else (some false)) else (some false)) else (some false)) = some r := by rw [if_pos rfl] at H; exact H
                 clear H
                 have H := H1
                 clear H1
                 by_cases c93 : t521 = true
                 ·subst c93
                  have H1 : (if t525 = true then (if t520 = t524 then (laws_FnInputsPut.l1 k4 l0 l1 t484 t485 t486 t491 (wrap64 (x23_4 + 1))) else (some false)) else (some false)) = some r := by rw [if_pos rfl] at H; exact H
                  clear H
                  have H := H1
                  clear H1
                  by_cases c94 : t525 = true
                  ·subst c94
                   have H1 : (if t520 = t524 then (laws_FnInputsPut.l1 k4 l0 l1 t484 t485 t486 t491 (wrap64 (x23_4 + 1))) else (some false)) = some r := by rw [if_pos rfl] at H; exact H
                   clear H
                   have H := H1
                   clear H1
                   by_cases c95 : t520 = t524
                   ·rw [if_pos c95] at H
                    have c95b0 : (t520 == t524) = true := beq_iff_eq.mpr c95
                    have c95b1 : (t520 != t524) = false := bne_eq_false_iff_eq.mpr c95
                    clear c95
                    have H' := zK H
                    clear H
                    go_wp2_with (first | ((with_reducible refine gate_callee (f := 19) rfl ?_); refine goesL_ (some 169) rfl rfl Try.func19 (by kernel_rfl) rfl #[.slice Ao11 t486.length co11, .int .i64 (Int.tmod (wrap64 ((wrap64 (x23_4 * 37)) + (l0.length : Int))) 64), .int .i64 (Int.tmod (wrap64 ((wrap64 (x23_4 * 11)) + (l1.length : Int))) 64)] rfl (by (try simp only [z6, z7, z8]); first | done | rfl | (simp only [z4, z5]; rfl)) ?_; (with_reducible refine (impl_EvalExpr.calls k4 _ _ t486 (Int.tmod (wrap64 ((wrap64 (x23_4 * 37)) + (l0.length : Int))) 64) (Int.tmod (wrap64 ((wrap64 (x23_4 * 11)) + (l1.length : Int))) 64) t518 true _ ?side1 ?side2 A63.out).mono ?_); (case side1 => repeat (first | exact (Kd.R_reads' HO_7.out).2.2 | (with_reducible refine Kd.C_alloc ?_ _) | (with_reducible refine Kd.C_drewN ?_ _) | (with_reducible refine Kd.C_drew ?_))); (case side2 => exact (Kd.R_reads' HO_7.out).2.1); rintro e w96 ⟨rfl, hb⟩; refine ⟨_, rfl, ?_⟩; have n0_ := zK (Kd.R_below (by (with_reducible repeat (first | apply Kd.R_alloc | apply Kd.R_drewN | apply Kd.R_drew)); exact HO_5.out) hb); have n1_ := zK (Kd.R_below (by (with_reducible repeat (first | apply Kd.R_alloc | apply Kd.R_drewN | apply Kd.R_drew)); exact HO_7.out) hb); have n2_ := zK (Kd.R_below (by (with_reducible repeat (first | apply Kd.R_alloc | apply Kd.R_drewN | apply Kd.R_drew)); exact HO_8.out) hb); have n3_ := zK (zL (by repeat (first | (with_reducible first | exact HB.out | apply zA | apply zB | apply zC) | exact HB.out)) hb); clear HO_5; clear HO_7; clear HO_8; clear HB; have HO_5 := n0_; have HO_7 := n1_; have HO_8 := n2_; have HB := n3_; clear n0_ n1_ n2_ n3_; (try clear hb); (try clear hb2); (try clear hk); (try clear hi); obtain ⟨Ao97, co97, eo97⟩ := Kd.R_slice HO_8.out; subst eo97) | ((with_reducible refine gate_callee (f := 19) rfl ?_); refine goesL_ (some 176) rfl rfl Try.func19 (by kernel_rfl) rfl #[.slice Ao97 t491.length co97, .int .i64 (Int.tmod (wrap64 ((wrap64 (x23_4 * 37)) + (l0.length : Int))) 64), .int .i64 (Int.tmod (wrap64 ((wrap64 (x23_4 * 11)) + (l1.length : Int))) 64)] rfl (by (try simp only [z6, z7, z8]); first | done | rfl | (simp only [z4, z5]; rfl)) ?_; (with_reducible refine (impl_EvalExpr.calls k4 _ _ t491 (Int.tmod (wrap64 ((wrap64 (x23_4 * 37)) + (l0.length : Int))) 64) (Int.tmod (wrap64 ((wrap64 (x23_4 * 11)) + (l1.length : Int))) 64) t520 true _ ?side1 ?side2 A64.out).mono ?_); (case side1 => repeat (first | exact (Kd.R_reads' HO_8.out).2.2 | (with_reducible refine Kd.C_alloc ?_ _) | (with_reducible refine Kd.C_drewN ?_ _) | (with_reducible refine Kd.C_drew ?_))); (case side2 => exact (Kd.R_reads' HO_8.out).2.1); rintro e w98 ⟨rfl, hb⟩; refine ⟨_, rfl, ?_⟩; have n0_ := zK (Kd.R_below (by (with_reducible repeat (first | apply Kd.R_alloc | apply Kd.R_drewN | apply Kd.R_drew)); exact HO_5.out) hb); have n1_ := zK (Kd.R_below (by (with_reducible repeat (first | apply Kd.R_alloc | apply Kd.R_drewN | apply Kd.R_drew)); exact HO_7.out) hb); have n2_ := zK (Kd.R_below (by (with_reducible repeat (first | apply Kd.R_alloc | apply Kd.R_drewN | apply Kd.R_drew)); exact HO_8.out) hb); have n3_ := zK (zL (by repeat (first | (with_reducible first | exact HB.out | apply zA | apply zB | apply zC) | exact HB.out)) hb); clear HO_5; clear HO_7; clear HO_8; clear HB; have HO_5 := n0_; have HO_7 := n1_; have HO_8 := n2_; have HB := n3_; clear n0_ n1_ n2_ n3_; (try clear hb); (try clear hb2); (try clear hk); (try clear hi)) | ((with_reducible refine gate_callee (f := 19) rfl ?_); refine goesL_ (some 189) rfl rfl Try.func19 (by kernel_rfl) rfl #[.slice Ao10 t484.length co10, .int .i64 t518, .int .i64 (Int.tmod (wrap64 ((wrap64 (x23_4 * 11)) + (l1.length : Int))) 64)] rfl (by (try simp only [z6, z7, z8]); first | done | rfl | (simp only [z4, z5]; rfl)) ?_; (with_reducible refine (impl_EvalExpr.calls k4 _ _ t484 t518 (Int.tmod (wrap64 ((wrap64 (x23_4 * 11)) + (l1.length : Int))) 64) t524 true _ ?side1 ?side2 A91.out).mono ?_); (case side1 => repeat (first | exact (Kd.R_reads' HO_5.out).2.2 | (with_reducible refine Kd.C_alloc ?_ _) | (with_reducible refine Kd.C_drewN ?_ _) | (with_reducible refine Kd.C_drew ?_))); (case side2 => exact (Kd.R_reads' HO_5.out).2.1); rintro e w99 ⟨rfl, hb⟩; refine ⟨_, rfl, ?_⟩; have n0_ := zK (Kd.R_below (by (with_reducible repeat (first | apply Kd.R_alloc | apply Kd.R_drewN | apply Kd.R_drew)); exact HO_5.out) hb); have n1_ := zK (Kd.R_below (by (with_reducible repeat (first | apply Kd.R_alloc | apply Kd.R_drewN | apply Kd.R_drew)); exact HO_7.out) hb); have n2_ := zK (Kd.R_below (by (with_reducible repeat (first | apply Kd.R_alloc | apply Kd.R_drewN | apply Kd.R_drew)); exact HO_8.out) hb); have n3_ := zK (zL (by repeat (first | (with_reducible first | exact HB.out | apply zA | apply zB | apply zC) | exact HB.out)) hb); clear HO_5; clear HO_7; clear HO_8; clear HB; have HO_5 := n0_; have HO_7 := n1_; have HO_8 := n2_; have HB := n3_; clear n0_ n1_ n2_ n3_; (try clear hb); (try clear hb2); (try clear hk); (try clear hi)))
                    go_roundg k4
                    case measure => have := HJ7.out; have := HJ23.out; have := HK3.out; have := HK4.out; omega
                    case rel => exact ⟨(wrap64 (x23_4 + 1)), (by first | rfl | (simp; done) | (simp [*]; done)), H', ⟨by have := HJ7.out; have := HJ23.out; have := HK3.out; have := HK4.out; omega⟩, ⟨by (with_reducible repeat (first | apply Kd.R_alloc | apply Kd.R_drewN | apply Kd.R_drew)); exact HO_5.out⟩, ⟨by (with_reducible repeat (first | apply Kd.R_alloc | apply Kd.R_drewN | apply Kd.R_drew)); exact HO_7.out⟩, ⟨by (with_reducible repeat (first | apply Kd.R_alloc | apply Kd.R_drewN | apply Kd.R_drew)); exact HO_8.out⟩, ⟨by repeat (first | (with_reducible first | exact HB.out | apply zA | apply zB | apply zC) | exact HB.out)⟩⟩
                   ·rw [if_neg c95] at H
                    have c95b0 : (t520 == t524) = false := beq_eq_false_iff_ne.mpr c95
                    have c95b1 : (t520 != t524) = true := bne_iff_ne.mpr c95
                    exact absurd ((Option.some.inj H).trans hr) (by decide)
                  ·replace c94 := Bool.eq_false_iff.mpr c94
                   subst c94
                   have H1 : (some false) = some r := by rw [if_neg (show ¬ (false = true) by decide)] at H; exact H
                   clear H
                   have H := H1
                   clear H1
                   exact absurd ((Option.some.inj H).trans hr) (by decide)
                 ·replace c93 := Bool.eq_false_iff.mpr c93
                  subst c93
                  have H1 : (some false) = some r := by rw [if_neg (show ¬ (false = true) by decide)] at H; exact H
                  clear H
                  have H := H1
                  clear H1
                  exact absurd ((Option.some.inj H).trans hr) (by decide)
                ·replace c92 := Bool.eq_false_iff.mpr c92
                 subst c92
                 have H1 : (some false) = some r := by rw [if_neg (show ¬ (false = true) by decide)] at H; exact H
                 clear H
                 have H := H1
                 clear H1
                 exact absurd ((Option.some.inj H).trans hr) (by decide)
              ·rw [if_neg c62] at H
               have c62b0 : decide (x23_4 < 64) = false := decide_eq_false c62
               clear c62
               replace H := Option.bind_eq_some_iff.mp H
               obtain ⟨t517, A1160, H⟩ := H
               replace H : (some t517) = some r := H
               have A116 := zK A1160
               clear A1160
               obtain rfl := Option.some.inj H
               obtain ⟨Ao117, co117, eo117⟩ := Kd.R_slice HO_8.out
               subst eo117
               go_wp2_with (first | ((with_reducible refine gate_callee (f := 20) rfl ?_); refine goesL_ (some 208) rfl rfl Try.func20 (by kernel_rfl) rfl #[.slice Ao117 t491.length co117] rfl (by (try simp only [z6, z7, z8]); first | done | rfl | (simp only [z4, z5]; rfl)) ?_; (with_reducible refine (impl_IsExpr.calls k4 _ _ t491 t517 _ ?side1 ?side2 A116.out).mono ?_); (case side1 => repeat (first | exact (Kd.R_reads' HO_8.out).2.2 | (with_reducible refine Kd.C_alloc ?_ _) | (with_reducible refine Kd.C_drewN ?_ _) | (with_reducible refine Kd.C_drew ?_))); (case side2 => exact (Kd.R_reads' HO_8.out).2.1); rintro e w118 ⟨rfl, hb⟩; refine ⟨_, rfl, ?_⟩; have n0_ := zK (Kd.R_below (by (with_reducible repeat (first | apply Kd.R_alloc | apply Kd.R_drewN | apply Kd.R_drew)); exact HO_5.out) hb); have n1_ := zK (Kd.R_below (by (with_reducible repeat (first | apply Kd.R_alloc | apply Kd.R_drewN | apply Kd.R_drew)); exact HO_7.out) hb); have n2_ := zK (Kd.R_below (by (with_reducible repeat (first | apply Kd.R_alloc | apply Kd.R_drewN | apply Kd.R_drew)); exact HO_8.out) hb); have n3_ := zK (zL (by repeat (first | (with_reducible first | exact HB.out | apply zA | apply zB | apply zC) | exact HB.out)) hb); clear HO_5; clear HO_7; clear HO_8; clear HB; have HO_5 := n0_; have HO_7 := n1_; have HO_8 := n2_; have HB := n3_; clear n0_ n1_ n2_ n3_; (try clear hb); (try clear hb2); (try clear hk); (try clear hi)))
               go_ret
               exact ⟨by first | rfl | (simp [errW_none, errW_some] <;> rfl) | (simp [*, errW_none, errW_some] <;> rfl), by repeat (first | (with_reducible first | exact HB.out | apply zA | apply zB | apply zC) | exact HB.out)⟩
           ·replace c61 := Bool.eq_false_iff.mpr c61
            subst c61
            have H1 : (some true) = some r := by rw [if_neg (show ¬ (false = true) by decide)] at H; exact H
            clear H
            have H := H1
            clear H1
            obtain rfl := Option.some.inj H
            go_wp2
            go_ret
            exact ⟨by first | rfl | (simp [errW_none, errW_some] <;> rfl) | (simp [*, errW_none, errW_some] <;> rfl), by repeat (first | (with_reducible first | exact HB.out | apply zA | apply zB | apply zC) | exact HB.out)⟩

/-- THE ONE PURE STATEMENT of laws_FnInputsPut: yours. -/
def laws_FnInputsPut.Pure : Prop := ∀ (l0 : List Int) (l1 : List Int), l0.length ≤ maxLen → l0.length * 1 ≤ 140737488351232 → (∀ x ∈ l0, (Lit.int .u8 x).wf = true) → l1.length ≤ maxLen → l1.length * 1 ≤ 140737488351232 → (∀ x ∈ l1, (Lit.int .u8 x).wf = true) → ∃ k, laws_FnInputsPut.f k l0 l1 = some true
theorem laws_FnInputsPut.walk (P : laws_FnInputsPut.Pure) (a0 : Option Addr) (len0 cap0 : Nat) (z0 : List Int) (a1 : Option Addr) (len1 cap1 : Nat) (z1 : List Int) (w : World) (w0 : (a0 = none ∧ len0 = 0 ∧ cap0 = 0 ∧ z0 = []) ∨ ∃ x, a0 = some x ∧ len0 ≤ cap0 ∧ cap0 ≤ maxLen ∧ z0.length = cap0 ∧ (∀ i, i < z0.length → w.cell? (x.add i) = some (.int .u8 (z0.getD i 0))) ∧ ∀ n ∈ z0, (Lit.int .u8 n).wf = true) (y0 : len0 * 1 ≤ 140737488351232) (w1 : (a1 = none ∧ len1 = 0 ∧ cap1 = 0 ∧ z1 = []) ∨ ∃ x, a1 = some x ∧ len1 ≤ cap1 ∧ cap1 ≤ maxLen ∧ z1.length = cap1 ∧ (∀ i, i < z1.length → w.cell? (x.add i) = some (.int .u8 (z1.getD i 0))) ∧ ∀ n ∈ z1, (Lit.int .u8 n).wf = true) (y1 : len1 * 1 ≤ 140737488351232) :
  Calls Try.prog 3 #[.slice a0 len0 cap0, .slice a1 len1 cap1] w fun e w' => e = .returned (.bool true) ∧ Below w.heap.size w w' := by
 obtain ⟨l0, rfl, hr0, hm0, hw0, hc0⟩ := ReadsInt.ofRowC w0
 obtain ⟨l1, rfl, hr1, hm1, hw1, hc1⟩ := ReadsInt.ofRowC w1
 obtain ⟨k, h⟩ := P l0 l1 hm0 y0 hw0 hm1 y1 hw1
 refine (laws_FnInputsPut.calls k _ _ l0 _ _ l1 true w (Kd.C_of_reads (d := (0 : Int)) (h1 := fun _ => rfl) hr0) hc0 (Kd.C_of_reads (d := (0 : Int)) (h1 := fun _ => rfl) hr1) hc1 h rfl).mono ?_
 rintro e w' ⟨rfl, hd⟩
 exact ⟨rfl, hd⟩

end Go.Proofs.Ytlcplhcccgbmnaa.B
