/- Contracts: laws_FnValuesOfNodes. -/
import Derived.Test.YtlcplhcccgbmnaaCK
import Derived.Test.YtlcplhcccgbmnaaCLawsBig
import Derived.Test.YtlcplhcccgbmnaaCImplIsExpr
import Derived.Test.YtlcplhcccgbmnaaCSpecL1CurAnyExpr
import Derived.Test.YtlcplhcccgbmnaaCSpecExApply
import Derived.Test.YtlcplhcccgbmnaaCImplTableOf
namespace Go.Proofs.Ytlcplhcccgbmnaa.C
open Go.RowKit Go.Proofs.YtlcplhcccgbmnaaW.PrintWords Go.Proofs.YtlcplhcccgbmnaaW.PrintLast Go.Proofs.YtlcplhcccgbmnaaW.PrintMore
attribute [local go_sem] max2_int min2_int max_two min_two max_three min_three max_four min_four   -- for this text's walks alone
set_option linter.unusedVariables false
set_option linter.unusedSimpArgs false

/-! ### laws_FnValuesOfNodes: function 4 -/
mutual
def laws_FnValuesOfNodes.j0 : Nat → List Int → List (S47) → Int → Int → List Int → Bool → Int → Bool → Option (Bool)
 | 0, _, _, _, _, _, _, _, _ => none
 | k + 1, x1, x5, x6, x7, x8, x11, x12, x88 => if x88 = true then (some false) else ((spec_DrawTableOf.f k x1).bind fun t495 => ((impl_TableOf.f k t495).bind fun bt498 => ((spec_TableOf.f k t495).bind fun bt502 => (if (bt498.2 != bt502.2) = true then (laws_FnValuesOfNodes.j1 k x1 x5 x6 x7 x8 x11 x12 true) else ((laws_pSame.f k bt498.1 bt502.1).bind fun t506 => (if t506 = true then ((impl_IsExpr.f k t495).bind fun t507 => (laws_FnValuesOfNodes.j1 k x1 x5 x6 x7 x8 x11 x12 (bt498.2 != t507))) else (laws_FnValuesOfNodes.j1 k x1 x5 x6 x7 x8 x11 x12 true)))))))
def laws_FnValuesOfNodes.j1 : Nat → List Int → List (S47) → Int → Int → List Int → Bool → Int → Bool → Option (Bool)
 | 0, _, _, _, _, _, _, _, _ => none
 | k + 1, x1, x5, x6, x7, x8, x11, x12, x115 => if x115 = true then (some false) else ((spec_DrawApplyOp.f k x1).bind fun bt508 => ((impl_ApplyOp.f k bt508.1 bt508.2.1 bt508.2.2).bind fun bt511 => ((spec_ApplyOp.f k bt508.1 bt508.2.1 bt508.2.2).bind fun bt513 => (if (bt511.2 != bt513.2) = true then (laws_FnValuesOfNodes.j2 k x5 x6 x7 x8 x11 x12 true) else (laws_FnValuesOfNodes.j2 k x5 x6 x7 x8 x11 x12 (bt511.1 != bt513.1))))))
def laws_FnValuesOfNodes.j2 : Nat → List (S47) → Int → Int → List Int → Bool → Int → Bool → Option (Bool)
 | 0, _, _, _, _, _, _, _ => none
 | k + 1, x5, x6, x7, x8, x11, x12, x143 => if x143 = true then (some false) else (if x11 = true then (laws_FnValuesOfNodes.l0 k x5 x6 x7 x8 x12 x5 (x5.length : Int) 0) else (some true))
def laws_FnValuesOfNodes.l0 : Nat → List (S47) → Int → Int → List Int → Int → List (S47) → Int → Int → Option (Bool)
 | 0, _, _, _, _, _, _, _, _ => none
 | k + 1, x5, x6, x7, x8, x12, x146, x147, x148 => if x148 < x147 then (if 0 ≤ x148 then (if x148 < (x146.length : Int) then (if ((rd_T47 x146 x148).f0).toList = ([105, 110] : List UInt8) then (if ((rd_T47 x146 x148).f3) = 0 then (if x148 < (x8.length : Int) then (if (rd x8 x148) = x6 then (if ((rd_T47 x146 x148).f3) = 1 then (if (rd x8 x148) = x7 then (laws_FnValuesOfNodes.l0 k x5 x6 x7 x8 x12 x146 x147 (wrap64 (x148 + 1))) else (some false)) else (laws_FnValuesOfNodes.l0 k x5 x6 x7 x8 x12 x146 x147 (wrap64 (x148 + 1)))) else (some false)) else (none)) else (if ((rd_T47 x146 x148).f3) = 1 then (if x148 < (x8.length : Int) then (if (rd x8 x148) = x7 then (laws_FnValuesOfNodes.l0 k x5 x6 x7 x8 x12 x146 x147 (wrap64 (x148 + 1))) else (some false)) else (none)) else (laws_FnValuesOfNodes.l0 k x5 x6 x7 x8 x12 x146 x147 (wrap64 (x148 + 1))))) else (if ((rd_T47 x146 x148).f0).toList = ([99, 111, 110, 115, 116] : List UInt8) then (if x148 < (x8.length : Int) then (if (rd x8 x148) = ((rd_T47 x146 x148).f3) then (laws_FnValuesOfNodes.l0 k x5 x6 x7 x8 x12 x146 x147 (wrap64 (x148 + 1))) else (some false)) else (none)) else (if ((rd_T47 x146 x148).f0).toList = ([110, 111, 116] : List UInt8) then (laws_FnValuesOfNodes.j4 k x5 x6 x7 x8 x12 x148 x146 x147 x148 (((rd_T47 x146 x148).f0).toList == ([110, 111, 116] : List UInt8)) ((rd_T47 x146 x148).f0) ((rd_T47 x146 x148).f1) ((rd_T47 x146 x148).f2) ((rd_T47 x146 x148).f3)) else (laws_FnValuesOfNodes.j4 k x5 x6 x7 x8 x12 x148 x146 x147 x148 (((rd_T47 x146 x148).f0).toList == ([110, 101, 103] : List UInt8)) ((rd_T47 x146 x148).f0) ((rd_T47 x146 x148).f1) ((rd_T47 x146 x148).f2) ((rd_T47 x146 x148).f3))))) else (none)) else (none)) else ((laws_pTable.f k x5).bind fun t515 => (if 0 ≤ (wrap64 ((wrap64 (64 * x6)) + x7)) then (if (wrap64 ((wrap64 (64 * x6)) + x7)) < (t515.length : Int) then (some ((rd t515 (wrap64 ((wrap64 (64 * x6)) + x7))) == x12)) else (none)) else (none)))
def laws_FnValuesOfNodes.j4 : Nat → List (S47) → Int → Int → List Int → Int → Int → List (S47) → Int → Int → Bool → ByteArray → Int → Int → Int → Option (Bool)
 | 0, _, _, _, _, _, _, _, _, _, _, _, _, _, _ => none
 | k + 1, x5, x6, x7, x8, x12, x26, x146, x147, x148, x216, x521000, x521001, x521002, x521003 => if x216 = true then (if 0 ≤ x521001 then (if x521001 < (x8.length : Int) then ((impl_ApplyOp.f k x521000 (rd x8 x521001) 0).bind fun bt526 => (if bt526.2 = true then (if 0 ≤ x26 then (if x26 < (x8.length : Int) then (if bt526.1 = (rd x8 x26) then (laws_FnValuesOfNodes.l0 k x5 x6 x7 x8 x12 x146 x147 (wrap64 (x148 + 1))) else (some false)) else (none)) else (none)) else (some false))) else (none)) else (none)) else (if 0 ≤ x521001 then (if x521001 < (x8.length : Int) then (if 0 ≤ x521002 then (if x521002 < (x8.length : Int) then ((impl_ApplyOp.f k x521000 (rd x8 x521001) (rd x8 x521002)).bind fun bt531 => (if bt531.2 = true then (if 0 ≤ x26 then (if x26 < (x8.length : Int) then (if bt531.1 = (rd x8 x26) then (laws_FnValuesOfNodes.l0 k x5 x6 x7 x8 x12 x146 x147 (wrap64 (x148 + 1))) else (some false)) else (none)) else (none)) else (some false))) else (none)) else (none)) else (none)) else (none))
end
def laws_FnValuesOfNodes.f (k : Nat) (l0 : List Int) (l1 : List Int) : Option (Bool) := (laws_big.f l0 l1).bind fun t477 => (if t477 = true then (some true) else ((spec_DrawValuesOf.f k l0).bind fun bt478 => ((impl_ValuesOf.f k bt478.1 bt478.2.1 bt478.2.2).bind fun bt483 => ((spec_ValuesOf.f k bt478.1 bt478.2.1 bt478.2.2).bind fun bt487 => ((impl_EvalExpr.f k bt478.1 bt478.2.1 bt478.2.2).bind fun bt491 => (if (bt483.2 != bt487.2) = true then (laws_FnValuesOfNodes.j0 k l1 bt478.1 bt478.2.1 bt478.2.2 bt483.1 bt487.2 bt491.1 true) else ((laws_pSame.f k bt483.1 bt487.1).bind fun t493 => (if t493 = true then (if (bt491.2 != bt483.2) = true then (laws_FnValuesOfNodes.j0 k l1 bt478.1 bt478.2.1 bt478.2.2 bt483.1 bt487.2 bt491.1 true) else (if bt483.2 = true then (if 0 ≤ (wrap64 ((bt483.1.length : Int) - 1)) then (if (wrap64 ((bt483.1.length : Int) - 1)) < (bt483.1.length : Int) then (laws_FnValuesOfNodes.j0 k l1 bt478.1 bt478.2.1 bt478.2.2 bt483.1 bt487.2 bt491.1 (bt491.1 != (rd bt483.1 (wrap64 ((bt483.1.length : Int) - 1))))) else (none)) else (none)) else (laws_FnValuesOfNodes.j0 k l1 bt478.1 bt478.2.1 bt478.2.2 bt483.1 bt487.2 bt491.1 false))) else (laws_FnValuesOfNodes.j0 k l1 bt478.1 bt478.2.1 bt478.2.2 bt483.1 bt487.2 bt491.1 true)))))))))
theorem laws_FnValuesOfNodes.mono_l : ∀ k, (∀ y0 y1 y2 y3 y4 y5 y6 y7, LeO (laws_FnValuesOfNodes.j0 k y0 y1 y2 y3 y4 y5 y6 y7) (laws_FnValuesOfNodes.j0 (k + 1) y0 y1 y2 y3 y4 y5 y6 y7)) ∧ (∀ y0 y1 y2 y3 y4 y5 y6 y7, LeO (laws_FnValuesOfNodes.j1 k y0 y1 y2 y3 y4 y5 y6 y7) (laws_FnValuesOfNodes.j1 (k + 1) y0 y1 y2 y3 y4 y5 y6 y7)) ∧ (∀ y0 y1 y2 y3 y4 y5 y6, LeO (laws_FnValuesOfNodes.j2 k y0 y1 y2 y3 y4 y5 y6) (laws_FnValuesOfNodes.j2 (k + 1) y0 y1 y2 y3 y4 y5 y6)) ∧ (∀ y0 y1 y2 y3 y4 y5 y6 y7, LeO (laws_FnValuesOfNodes.l0 k y0 y1 y2 y3 y4 y5 y6 y7) (laws_FnValuesOfNodes.l0 (k + 1) y0 y1 y2 y3 y4 y5 y6 y7)) ∧ (∀ y0 y1 y2 y3 y4 y5 y6 y7 y8 y9 y10 y11 y12 y13, LeO (laws_FnValuesOfNodes.j4 k y0 y1 y2 y3 y4 y5 y6 y7 y8 y9 y10 y11 y12 y13) (laws_FnValuesOfNodes.j4 (k + 1) y0 y1 y2 y3 y4 y5 y6 y7 y8 y9 y10 y11 y12 y13))
 | 0 => ⟨fun _ _ _ _ _ _ _ _ r h => by simp [laws_FnValuesOfNodes.j0] at h, fun _ _ _ _ _ _ _ _ r h => by simp [laws_FnValuesOfNodes.j1] at h, fun _ _ _ _ _ _ _ r h => by simp [laws_FnValuesOfNodes.j2] at h, fun _ _ _ _ _ _ _ _ r h => by simp [laws_FnValuesOfNodes.l0] at h, fun _ _ _ _ _ _ _ _ _ _ _ _ _ _ r h => by simp [laws_FnValuesOfNodes.j4] at h⟩
 | k + 1 => by
  obtain ⟨ih0, ih1, ih2, ih3, ih4⟩ := laws_FnValuesOfNodes.mono_l k
  refine ⟨?_, ?_, ?_, ?_, ?_⟩
  ·intro y0 y1 y2 y3 y4 y5 y6 y7
   unfold laws_FnValuesOfNodes.j0
   repeat' first
   | (with_reducible exact ih0 _ _ _ _ _ _ _ _)
   | (with_reducible exact ih1 _ _ _ _ _ _ _ _)
   | (with_reducible exact ih2 _ _ _ _ _ _ _)
   | (with_reducible exact ih3 _ _ _ _ _ _ _ _)
   | (with_reducible exact ih4 _ _ _ _ _ _ _ _ _ _ _ _ _ _)
   | (with_reducible exact impl_ApplyOp.mono _ _ _ _)
   | (with_reducible exact impl_EvalExpr.mono _ _ _ _)
   | (with_reducible exact impl_IsExpr.mono _ _)
   | (with_reducible exact impl_TableOf.mono _ _)
   | (with_reducible exact impl_ValuesOf.mono _ _ _ _)
   | (with_reducible exact laws_pSame.mono _ _ _)
   | (with_reducible exact laws_pTable.mono _ _)
   | (with_reducible exact spec_ApplyOp.mono _ _ _ _)
   | (with_reducible exact spec_DrawApplyOp.mono _ _)
   | (with_reducible exact spec_DrawTableOf.mono _ _)
   | (with_reducible exact spec_DrawValuesOf.mono _ _)
   | (with_reducible exact spec_TableOf.mono _ _)
   | (with_reducible exact spec_ValuesOf.mono _ _ _ _)
   | (with_reducible exact LeO.refl _)
   | (with_reducible exact LeO.none _)
   | (with_reducible refine LeO.ite ?_ ?_)
   | (with_reducible refine LeO.bind ?_ (fun _ => ?_))
   | exact ih0 _ _ _ _ _ _ _ _
   | exact ih1 _ _ _ _ _ _ _ _
   | exact ih2 _ _ _ _ _ _ _
   | exact ih3 _ _ _ _ _ _ _ _
   | exact ih4 _ _ _ _ _ _ _ _ _ _ _ _ _ _
   | exact impl_ApplyOp.mono _ _ _ _
   | exact impl_EvalExpr.mono _ _ _ _
   | exact impl_IsExpr.mono _ _
   | exact impl_TableOf.mono _ _
   | exact impl_ValuesOf.mono _ _ _ _
   | exact laws_pSame.mono _ _ _
   | exact laws_pTable.mono _ _
   | exact spec_ApplyOp.mono _ _ _ _
   | exact spec_DrawApplyOp.mono _ _
   | exact spec_DrawTableOf.mono _ _
   | exact spec_DrawValuesOf.mono _ _
   | exact spec_TableOf.mono _ _
   | exact spec_ValuesOf.mono _ _ _ _
   | exact LeO.none _
   | refine LeO.ite ?_ ?_
   | refine LeO.bind ?_ (fun _ => ?_)
  ·intro y0 y1 y2 y3 y4 y5 y6 y7
   unfold laws_FnValuesOfNodes.j1
   repeat' first
   | (with_reducible exact ih0 _ _ _ _ _ _ _ _)
   | (with_reducible exact ih1 _ _ _ _ _ _ _ _)
   | (with_reducible exact ih2 _ _ _ _ _ _ _)
   | (with_reducible exact ih3 _ _ _ _ _ _ _ _)
   | (with_reducible exact ih4 _ _ _ _ _ _ _ _ _ _ _ _ _ _)
   | (with_reducible exact impl_ApplyOp.mono _ _ _ _)
   | (with_reducible exact impl_EvalExpr.mono _ _ _ _)
   | (with_reducible exact impl_IsExpr.mono _ _)
   | (with_reducible exact impl_TableOf.mono _ _)
   | (with_reducible exact impl_ValuesOf.mono _ _ _ _)
   | (with_reducible exact laws_pSame.mono _ _ _)
   | (with_reducible exact laws_pTable.mono _ _)
   | (with_reducible exact spec_ApplyOp.mono _ _ _ _)
   | (with_reducible exact spec_DrawApplyOp.mono _ _)
   | (with_reducible exact spec_DrawTableOf.mono _ _)
   | (with_reducible exact spec_DrawValuesOf.mono _ _)
   | (with_reducible exact spec_TableOf.mono _ _)
   | (with_reducible exact spec_ValuesOf.mono _ _ _ _)
   | (with_reducible exact LeO.refl _)
   | (with_reducible exact LeO.none _)
   | (with_reducible refine LeO.ite ?_ ?_)
   | (with_reducible refine LeO.bind ?_ (fun _ => ?_))
   | exact ih0 _ _ _ _ _ _ _ _
   | exact ih1 _ _ _ _ _ _ _ _
   | exact ih2 _ _ _ _ _ _ _
   | exact ih3 _ _ _ _ _ _ _ _
   | exact ih4 _ _ _ _ _ _ _ _ _ _ _ _ _ _
   | exact impl_ApplyOp.mono _ _ _ _
   | exact impl_EvalExpr.mono _ _ _ _
   | exact impl_IsExpr.mono _ _
   | exact impl_TableOf.mono _ _
   | exact impl_ValuesOf.mono _ _ _ _
   | exact laws_pSame.mono _ _ _
   | exact laws_pTable.mono _ _
   | exact spec_ApplyOp.mono _ _ _ _
   | exact spec_DrawApplyOp.mono _ _
   | exact spec_DrawTableOf.mono _ _
   | exact spec_DrawValuesOf.mono _ _
   | exact spec_TableOf.mono _ _
   | exact spec_ValuesOf.mono _ _ _ _
   | exact LeO.none _
   | refine LeO.ite ?_ ?_
   | refine LeO.bind ?_ (fun _ => ?_)
  ·intro y0 y1 y2 y3 y4 y5 y6
   unfold laws_FnValuesOfNodes.j2
   repeat' first
   | (with_reducible exact ih0 _ _ _ _ _ _ _ _)
   | (with_reducible exact ih1 _ _ _ _ _ _ _ _)
   | (with_reducible exact ih2 _ _ _ _ _ _ _)
   | (with_reducible exact ih3 _ _ _ _ _ _ _ _)
   | (with_reducible exact ih4 _ _ _ _ _ _ _ _ _ _ _ _ _ _)
   | (with_reducible exact impl_ApplyOp.mono _ _ _ _)
   | (with_reducible exact impl_EvalExpr.mono _ _ _ _)
   | (with_reducible exact impl_IsExpr.mono _ _)
   | (with_reducible exact impl_TableOf.mono _ _)
   | (with_reducible exact impl_ValuesOf.mono _ _ _ _)
   | (with_reducible exact laws_pSame.mono _ _ _)
   | (with_reducible exact laws_pTable.mono _ _)
   | (with_reducible exact spec_ApplyOp.mono _ _ _ _)
   | (with_reducible exact spec_DrawApplyOp.mono _ _)
   | (with_reducible exact spec_DrawTableOf.mono _ _)
   | (with_reducible exact spec_DrawValuesOf.mono _ _)
   | (with_reducible exact spec_TableOf.mono _ _)
   | (with_reducible exact spec_ValuesOf.mono _ _ _ _)
   | (with_reducible exact LeO.refl _)
   | (with_reducible exact LeO.none _)
   | (with_reducible refine LeO.ite ?_ ?_)
   | (with_reducible refine LeO.bind ?_ (fun _ => ?_))
   | exact ih0 _ _ _ _ _ _ _ _
   | exact ih1 _ _ _ _ _ _ _ _
   | exact ih2 _ _ _ _ _ _ _
   | exact ih3 _ _ _ _ _ _ _ _
   | exact ih4 _ _ _ _ _ _ _ _ _ _ _ _ _ _
   | exact impl_ApplyOp.mono _ _ _ _
   | exact impl_EvalExpr.mono _ _ _ _
   | exact impl_IsExpr.mono _ _
   | exact impl_TableOf.mono _ _
   | exact impl_ValuesOf.mono _ _ _ _
   | exact laws_pSame.mono _ _ _
   | exact laws_pTable.mono _ _
   | exact spec_ApplyOp.mono _ _ _ _
   | exact spec_DrawApplyOp.mono _ _
   | exact spec_DrawTableOf.mono _ _
   | exact spec_DrawValuesOf.mono _ _
   | exact spec_TableOf.mono _ _
   | exact spec_ValuesOf.mono _ _ _ _
   | exact LeO.none _
   | refine LeO.ite ?_ ?_
   | refine LeO.bind ?_ (fun _ => ?_)
  ·intro y0 y1 y2 y3 y4 y5 y6 y7
   unfold laws_FnValuesOfNodes.l0
   repeat' first
   | (with_reducible exact ih0 _ _ _ _ _ _ _ _)
   | (with_reducible exact ih1 _ _ _ _ _ _ _ _)
   | (with_reducible exact ih2 _ _ _ _ _ _ _)
   | (with_reducible exact ih3 _ _ _ _ _ _ _ _)
   | (with_reducible exact ih4 _ _ _ _ _ _ _ _ _ _ _ _ _ _)
   | (with_reducible exact impl_ApplyOp.mono _ _ _ _)
   | (with_reducible exact impl_EvalExpr.mono _ _ _ _)
   | (with_reducible exact impl_IsExpr.mono _ _)
   | (with_reducible exact impl_TableOf.mono _ _)
   | (with_reducible exact impl_ValuesOf.mono _ _ _ _)
   | (with_reducible exact laws_pSame.mono _ _ _)
   | (with_reducible exact laws_pTable.mono _ _)
   | (with_reducible exact spec_ApplyOp.mono _ _ _ _)
   | (with_reducible exact spec_DrawApplyOp.mono _ _)
   | (with_reducible exact spec_DrawTableOf.mono _ _)
   | (with_reducible exact spec_DrawValuesOf.mono _ _)
   | (with_reducible exact spec_TableOf.mono _ _)
   | (with_reducible exact spec_ValuesOf.mono _ _ _ _)
   | (with_reducible exact LeO.refl _)
   | (with_reducible exact LeO.none _)
   | (with_reducible refine LeO.ite ?_ ?_)
   | (with_reducible refine LeO.bind ?_ (fun _ => ?_))
   | exact ih0 _ _ _ _ _ _ _ _
   | exact ih1 _ _ _ _ _ _ _ _
   | exact ih2 _ _ _ _ _ _ _
   | exact ih3 _ _ _ _ _ _ _ _
   | exact ih4 _ _ _ _ _ _ _ _ _ _ _ _ _ _
   | exact impl_ApplyOp.mono _ _ _ _
   | exact impl_EvalExpr.mono _ _ _ _
   | exact impl_IsExpr.mono _ _
   | exact impl_TableOf.mono _ _
   | exact impl_ValuesOf.mono _ _ _ _
   | exact laws_pSame.mono _ _ _
   | exact laws_pTable.mono _ _
   | exact spec_ApplyOp.mono _ _ _ _
   | exact spec_DrawApplyOp.mono _ _
   | exact spec_DrawTableOf.mono _ _
   | exact spec_DrawValuesOf.mono _ _
   | exact spec_TableOf.mono _ _
   | exact spec_ValuesOf.mono _ _ _ _
   | exact LeO.none _
   | refine LeO.ite ?_ ?_
   | refine LeO.bind ?_ (fun _ => ?_)
  ·intro y0 y1 y2 y3 y4 y5 y6 y7 y8 y9 y10 y11 y12 y13
   unfold laws_FnValuesOfNodes.j4
   repeat' first
   | (with_reducible exact ih0 _ _ _ _ _ _ _ _)
   | (with_reducible exact ih1 _ _ _ _ _ _ _ _)
   | (with_reducible exact ih2 _ _ _ _ _ _ _)
   | (with_reducible exact ih3 _ _ _ _ _ _ _ _)
   | (with_reducible exact ih4 _ _ _ _ _ _ _ _ _ _ _ _ _ _)
   | (with_reducible exact impl_ApplyOp.mono _ _ _ _)
   | (with_reducible exact impl_EvalExpr.mono _ _ _ _)
   | (with_reducible exact impl_IsExpr.mono _ _)
   | (with_reducible exact impl_TableOf.mono _ _)
   | (with_reducible exact impl_ValuesOf.mono _ _ _ _)
   | (with_reducible exact laws_pSame.mono _ _ _)
   | (with_reducible exact laws_pTable.mono _ _)
   | (with_reducible exact spec_ApplyOp.mono _ _ _ _)
   | (with_reducible exact spec_DrawApplyOp.mono _ _)
   | (with_reducible exact spec_DrawTableOf.mono _ _)
   | (with_reducible exact spec_DrawValuesOf.mono _ _)
   | (with_reducible exact spec_TableOf.mono _ _)
   | (with_reducible exact spec_ValuesOf.mono _ _ _ _)
   | (with_reducible exact LeO.refl _)
   | (with_reducible exact LeO.none _)
   | (with_reducible refine LeO.ite ?_ ?_)
   | (with_reducible refine LeO.bind ?_ (fun _ => ?_))
   | exact ih0 _ _ _ _ _ _ _ _
   | exact ih1 _ _ _ _ _ _ _ _
   | exact ih2 _ _ _ _ _ _ _
   | exact ih3 _ _ _ _ _ _ _ _
   | exact ih4 _ _ _ _ _ _ _ _ _ _ _ _ _ _
   | exact impl_ApplyOp.mono _ _ _ _
   | exact impl_EvalExpr.mono _ _ _ _
   | exact impl_IsExpr.mono _ _
   | exact impl_TableOf.mono _ _
   | exact impl_ValuesOf.mono _ _ _ _
   | exact laws_pSame.mono _ _ _
   | exact laws_pTable.mono _ _
   | exact spec_ApplyOp.mono _ _ _ _
   | exact spec_DrawApplyOp.mono _ _
   | exact spec_DrawTableOf.mono _ _
   | exact spec_DrawValuesOf.mono _ _
   | exact spec_TableOf.mono _ _
   | exact spec_ValuesOf.mono _ _ _ _
   | exact LeO.none _
   | refine LeO.ite ?_ ?_
   | refine LeO.bind ?_ (fun _ => ?_)
theorem laws_FnValuesOfNodes.mono : ∀ a0 a1 k, LeO (laws_FnValuesOfNodes.f k a0 a1) (laws_FnValuesOfNodes.f (k + 1) a0 a1) := by
 intro a0 a1 k
 obtain ⟨ih0, ih1, ih2, ih3, ih4⟩ := laws_FnValuesOfNodes.mono_l k
 unfold laws_FnValuesOfNodes.f
 repeat' first
   | (with_reducible exact ih0 _ _ _ _ _ _ _ _)
   | (with_reducible exact ih1 _ _ _ _ _ _ _ _)
   | (with_reducible exact ih2 _ _ _ _ _ _ _)
   | (with_reducible exact ih3 _ _ _ _ _ _ _ _)
   | (with_reducible exact ih4 _ _ _ _ _ _ _ _ _ _ _ _ _ _)
   | (with_reducible exact impl_ApplyOp.mono _ _ _ _)
   | (with_reducible exact impl_EvalExpr.mono _ _ _ _)
   | (with_reducible exact impl_IsExpr.mono _ _)
   | (with_reducible exact impl_TableOf.mono _ _)
   | (with_reducible exact impl_ValuesOf.mono _ _ _ _)
   | (with_reducible exact laws_pSame.mono _ _ _)
   | (with_reducible exact laws_pTable.mono _ _)
   | (with_reducible exact spec_ApplyOp.mono _ _ _ _)
   | (with_reducible exact spec_DrawApplyOp.mono _ _)
   | (with_reducible exact spec_DrawTableOf.mono _ _)
   | (with_reducible exact spec_DrawValuesOf.mono _ _)
   | (with_reducible exact spec_TableOf.mono _ _)
   | (with_reducible exact spec_ValuesOf.mono _ _ _ _)
   | (with_reducible exact LeO.refl _)
   | (with_reducible exact LeO.none _)
   | (with_reducible refine LeO.ite ?_ ?_)
   | (with_reducible refine LeO.bind ?_ (fun _ => ?_))
   | exact ih0 _ _ _ _ _ _ _ _
   | exact ih1 _ _ _ _ _ _ _ _
   | exact ih2 _ _ _ _ _ _ _
   | exact ih3 _ _ _ _ _ _ _ _
   | exact ih4 _ _ _ _ _ _ _ _ _ _ _ _ _ _
   | exact impl_ApplyOp.mono _ _ _ _
   | exact impl_EvalExpr.mono _ _ _ _
   | exact impl_IsExpr.mono _ _
   | exact impl_TableOf.mono _ _
   | exact impl_ValuesOf.mono _ _ _ _
   | exact laws_pSame.mono _ _ _
   | exact laws_pTable.mono _ _
   | exact spec_ApplyOp.mono _ _ _ _
   | exact spec_DrawApplyOp.mono _ _
   | exact spec_DrawTableOf.mono _ _
   | exact spec_DrawValuesOf.mono _ _
   | exact spec_TableOf.mono _ _
   | exact spec_ValuesOf.mono _ _ _ _
   | exact LeO.none _
   | refine LeO.ite ?_ ?_
   | refine LeO.bind ?_ (fun _ => ?_)
def laws_FnValuesOfNodes.T25 : Bool × List (List Nat × List Nat) := (true, [([], []), ([0], [0]), ([], []), ([], []), ([3], [3]), ([2, 4], [2, 4]), ([5], [5]), ([], []), ([], []), ([8], [8]), ([7, 9], [7, 9]), ([10], [10]), ([1, 6, 11], [1, 6, 11]), ([12], [12]), ([13], [13]), ([13], [13]), ([14, 12, 0, 1, 2, 3, 4, 5, 6, 7, 8, 9, 10, 11, 12, 13, 14], [14]), ([15, 16, 0, 1, 2, 3, 4, 5, 6, 7, 8, 9, 10, 11, 12, 13, 14, 15, 16], [15])])
def laws_FnValuesOfNodes.B25 : List Nat := [0, 1, 0, 0, 8, 28, 60, 0, 0, 256, 896, 1920, 4095, 8191, 16383, 16383, 32767, 131071]
theorem laws_FnValuesOfNodes.tab25 : rtab .any (opsOf Try.f4 25) = laws_FnValuesOfNodes.T25 := by kernel_rfl
theorem laws_FnValuesOfNodes.bits25 : waitsOk laws_FnValuesOfNodes.T25.2 laws_FnValuesOfNodes.B25 = true := by kernel_rfl
def laws_FnValuesOfNodes.T36 : Bool × List (List Nat × List Nat) := (true, [([], []), ([0], [0]), ([], []), ([], []), ([3], [3]), ([2, 4], [2, 4]), ([5], [5]), ([1, 6], [1, 6]), ([7], [7]), ([8], [8]), ([8], [8]), ([9, 7, 0, 1, 2, 3, 4, 5, 6, 7, 8, 9], [9]), ([10, 11, 0, 1, 2, 3, 4, 5, 6, 7, 8, 9, 10, 11], [10])])
def laws_FnValuesOfNodes.B36 : List Nat := [0, 1, 0, 0, 8, 28, 60, 127, 255, 511, 511, 1023, 4095]
theorem laws_FnValuesOfNodes.tab36 : rtab .any (opsOf Try.f4 36) = laws_FnValuesOfNodes.T36 := by kernel_rfl
theorem laws_FnValuesOfNodes.bits36 : waitsOk laws_FnValuesOfNodes.T36.2 laws_FnValuesOfNodes.B36 = true := by kernel_rfl
set_option maxHeartbeats 8000000 in
set_option maxRecDepth 100000 in
theorem laws_FnValuesOfNodes.calls (k : Nat) (A0 : Option Addr) (c0 : Nat) (l0 : List Int) (A1 : Option Addr) (c1 : Nat) (l1 : List Int) (r : Bool) (w : World) (hr0 : Kd.C (Kd.int .u8) w A0 l0.length l0) (hc0 : l0.length ≤ c0) (hr1 : Kd.C (Kd.int .u8) w A1 l1.length l1) (hc1 : l1.length ≤ c1) (h : laws_FnValuesOfNodes.f k l0 l1 = some r) (hr : r = true) :
  Calls Try.prog 4 #[.slice A0 l0.length c0, .slice A1 l1.length c1] w fun e w' => e = .returned (.bool r) ∧ Below w.heap.size w w' := by
 have hu47 := Try.underlying47
 have HR0 := zK hr0
 have HC0 := zK hc0
 clear hr0 hc0
 have HR1 := zK hr1
 have HC1 := zK hc1
 clear hr1 hc1
 have HB := zK (Below.refl w.heap.size w)
 have H : ((laws_big.f l0 l1).bind fun t477 => (if t477 = true then (some true) else ((spec_DrawValuesOf.f k l0).bind fun bt478 => ((impl_ValuesOf.f k bt478.1 bt478.2.1 bt478.2.2).bind fun bt483 => ((spec_ValuesOf.f k bt478.1 bt478.2.1 bt478.2.2).bind fun bt487 => ((impl_EvalExpr.f k bt478.1 bt478.2.1 bt478.2.2).bind fun bt491 => (if (bt483.2 != bt487.2) = true then (laws_FnValuesOfNodes.j0 k l1 bt478.1 bt478.2.1 bt478.2.2 bt483.1 bt487.2 bt491.1 true) else ((laws_pSame.f k bt483.1 bt487.1).bind fun t493 => (if t493 = true then (if (bt491.2 != bt483.2) = true then (laws_FnValuesOfNodes.j0 k l1 bt478.1 bt478.2.1 bt478.2.2 bt483.1 bt487.2 bt491.1 true) else (if bt483.2 = true then (if 0 ≤ (wrap64 ((bt483.1.length : Int) - 1)) then (if (wrap64 ((bt483.1.length : Int) - 1)) < (bt483.1.length : Int) then (laws_FnValuesOfNodes.j0 k l1 bt478.1 bt478.2.1 bt478.2.2 bt483.1 bt487.2 bt491.1 (bt491.1 != (rd bt483.1 (wrap64 ((bt483.1.length : Int) - 1))))) else (none)) else (none)) else (laws_FnValuesOfNodes.j0 k l1 bt478.1 bt478.2.1 bt478.2.2 bt483.1 bt487.2 bt491.1 false))) else (laws_FnValuesOfNodes.j0 k l1 bt478.1 bt478.2.1 bt478.2.2 bt483.1 bt487.2 bt491.1 true)))))))))) = some r := h
 clear h
 replace H := Option.bind_eq_some_iff.mp H
 obtain ⟨t477, A30, H⟩ := H
 replace H : (if t477 = true then (some true) else ((spec_DrawValuesOf.f k l0).bind fun bt478 => ((impl_ValuesOf.f k bt478.1 bt478.2.1 bt478.2.2).bind fun bt483 => ((spec_ValuesOf.f k bt478.1 bt478.2.1 bt478.2.2).bind fun bt487 => ((impl_EvalExpr.f k bt478.1 bt478.2.1 bt478.2.2).bind fun bt491 => (if (bt483.2 != bt487.2) = true then (laws_FnValuesOfNodes.j0 k l1 bt478.1 bt478.2.1 bt478.2.2 bt483.1 bt487.2 bt491.1 true) else ((laws_pSame.f k bt483.1 bt487.1).bind fun t493 => (if t493 = true then (if (bt491.2 != bt483.2) = true then (laws_FnValuesOfNodes.j0 k l1 bt478.1 bt478.2.1 bt478.2.2 bt483.1 bt487.2 bt491.1 true) else (if bt483.2 = true then (if 0 ≤ (wrap64 ((bt483.1.length : Int) - 1)) then (if (wrap64 ((bt483.1.length : Int) - 1)) < (bt483.1.length : Int) then (laws_FnValuesOfNodes.j0 k l1 bt478.1 bt478.2.1 bt478.2.2 bt483.1 bt487.2 bt491.1 (bt491.1 != (rd bt483.1 (wrap64 ((bt483.1.length : Int) - 1))))) else (none)) else (none)) else (laws_FnValuesOfNodes.j0 k l1 bt478.1 bt478.2.1 bt478.2.2 bt483.1 bt487.2 bt491.1 false))) else (laws_FnValuesOfNodes.j0 k l1 bt478.1 bt478.2.1 bt478.2.2 bt483.1 bt487.2 bt491.1 true))))))))) = some r := H
 have A3 := zK A30
 clear A30
 by_cases c4 : t477 = true
 ·subst c4
  have H1 : (some true) = some r := by rw [if_pos rfl] at H; exact H
  clear H
  have H := H1
  clear H1
  obtain rfl := Option.some.inj H
  go_enter Try.func4, Try.ntmps4
  go_wp2_with (first | ((with_reducible refine gate_callee (f := 8) rfl ?_); refine goesL_ (some 34) rfl rfl Try.func8 (by kernel_rfl) rfl #[.slice A0 l0.length c0, .slice A1 l1.length c1] rfl (by (try simp only [z6, z7, z8]); first | done | rfl | (simp only [z4, z5]; rfl)) ?_; (with_reducible refine (laws_big.calls _ _ l0 _ _ l1 true _ ?side1 ?side2 ?side3 ?side4 A3.out).mono ?_); (case side1 => repeat (first | exact HR0.out | (with_reducible refine Kd.C_alloc ?_ _) | (with_reducible refine Kd.C_drewN ?_ _) | (with_reducible refine Kd.C_drew ?_))); (case side2 => exact HC0.out); (case side3 => repeat (first | exact HR1.out | (with_reducible refine Kd.C_alloc ?_ _) | (with_reducible refine Kd.C_drewN ?_ _) | (with_reducible refine Kd.C_drew ?_))); (case side4 => exact HC1.out); rintro e w' ⟨rfl, ⟨nd, rfl⟩⟩; refine ⟨_, rfl, ?_⟩))
  go_ret
  exact ⟨by first | rfl | (simp [errW_none, errW_some] <;> rfl) | (simp [*, errW_none, errW_some] <;> rfl), by repeat (first | (with_reducible first | exact HB.out | apply zA | apply zB | apply zC) | exact HB.out)⟩
 ·replace c4 := Bool.eq_false_iff.mpr c4
  subst c4
  have H1 : ((spec_DrawValuesOf.f k l0).bind fun bt478 => ((impl_ValuesOf.f k bt478.1 bt478.2.1 bt478.2.2).bind fun bt483 => ((spec_ValuesOf.f k bt478.1 bt478.2.1 bt478.2.2).bind fun bt487 => ((impl_EvalExpr.f k bt478.1 bt478.2.1 bt478.2.2).bind fun bt491 => (if (bt483.2 != bt487.2) = true then (laws_FnValuesOfNodes.j0 k l1 bt478.1 bt478.2.1 bt478.2.2 bt483.1 bt487.2 bt491.1 true) else ((laws_pSame.f k bt483.1 bt487.1).bind fun t493 => (if t493 = true then (if (bt491.2 != bt483.2) = true then (laws_FnValuesOfNodes.j0 k l1 bt478.1 bt478.2.1 bt478.2.2 bt483.1 bt487.2 bt491.1 true) else (if bt483.2 = true then (if 0 ≤ (wrap64 ((bt483.1.length : Int) - 1)) then (if (wrap64 ((bt483.1.length : Int) - 1)) < (bt483.1.length : Int) then (laws_FnValuesOfNodes.j0 k l1 bt478.1 bt478.2.1 bt478.2.2 bt483.1 bt487.2 bt491.1 (bt491.1 != (rd bt483.1 (wrap64 ((bt483.1.length : Int) - 1))))) else (none)) else (none)) else (laws_FnValuesOfNodes.j0 k l1 bt478.1 bt478.2.1 bt478.2.2 bt483.1 bt487.2 bt491.1 false))) else (laws_FnValuesOfNodes.j0 k l1 bt478.1 bt478.2.1 bt478.2.2 bt483.1 bt487.2 bt491.1 true)))))))) = some r := by rw [if_neg (show ¬ (false = true) by decide)] at H; exact H
  clear H
  have H := H1
  clear H1
  replace H := Option.bind_eq_some_iff.mp H
  obtain ⟨⟨t478, t479, t480⟩, A50, H⟩ := H
  replace H : ((impl_ValuesOf.f k t478 t479 t480).bind fun bt483 => ((spec_ValuesOf.f k t478 t479 t480).bind fun bt487 => ((impl_EvalExpr.f k t478 t479 t480).bind fun bt491 => (if (bt483.2 != bt487.2) = true then (laws_FnValuesOfNodes.j0 k l1 t478 t479 t480 bt483.1 bt487.2 bt491.1 true) else ((laws_pSame.f k bt483.1 bt487.1).bind fun t493 => (if t493 = true then (if (bt491.2 != bt483.2) = true then (laws_FnValuesOfNodes.j0 k l1 t478 t479 t480 bt483.1 bt487.2 bt491.1 true) else (if bt483.2 = true then (if 0 ≤ (wrap64 ((bt483.1.length : Int) - 1)) then (if (wrap64 ((bt483.1.length : Int) - 1)) < (bt483.1.length : Int) then (laws_FnValuesOfNodes.j0 k l1 t478 t479 t480 bt483.1 bt487.2 bt491.1 (bt491.1 != (rd bt483.1 (wrap64 ((bt483.1.length : Int) - 1))))) else (none)) else (none)) else (laws_FnValuesOfNodes.j0 k l1 t478 t479 t480 bt483.1 bt487.2 bt491.1 false))) else (laws_FnValuesOfNodes.j0 k l1 t478 t479 t480 bt483.1 bt487.2 bt491.1 true))))))) = some r := H
  have A5 := zK A50
  clear A50
  replace H := Option.bind_eq_some_iff.mp H
  obtain ⟨⟨t483, t484⟩, A60, H⟩ := H
  replace H : ((spec_ValuesOf.f k t478 t479 t480).bind fun bt487 => ((impl_EvalExpr.f k t478 t479 t480).bind fun bt491 => (if (t484 != bt487.2) = true then (laws_FnValuesOfNodes.j0 k l1 t478 t479 t480 t483 bt487.2 bt491.1 true) else ((laws_pSame.f k t483 bt487.1).bind fun t493 => (if t493 = true then (if (bt491.2 != t484) = true then (laws_FnValuesOfNodes.j0 k l1 t478 t479 t480 t483 bt487.2 bt491.1 true) else (if t484 = true then (if 0 ≤ (wrap64 ((t483.length : Int) - 1)) then (if (wrap64 ((t483.length : Int) - 1)) < (t483.length : Int) then (laws_FnValuesOfNodes.j0 k l1 t478 t479 t480 t483 bt487.2 bt491.1 (bt491.1 != (rd t483 (wrap64 ((t483.length : Int) - 1))))) else (none)) else (none)) else (laws_FnValuesOfNodes.j0 k l1 t478 t479 t480 t483 bt487.2 bt491.1 false))) else (laws_FnValuesOfNodes.j0 k l1 t478 t479 t480 t483 bt487.2 bt491.1 true)))))) = some r := H
  have A6 := zK A60
  clear A60
  replace H := Option.bind_eq_some_iff.mp H
  obtain ⟨⟨t487, t488⟩, A70, H⟩ := H
  replace H : ((impl_EvalExpr.f k t478 t479 t480).bind fun bt491 => (if (t484 != t488) = true then (laws_FnValuesOfNodes.j0 k l1 t478 t479 t480 t483 t488 bt491.1 true) else ((laws_pSame.f k t483 t487).bind fun t493 => (if t493 = true then (if (bt491.2 != t484) = true then (laws_FnValuesOfNodes.j0 k l1 t478 t479 t480 t483 t488 bt491.1 true) else (if t484 = true then (if 0 ≤ (wrap64 ((t483.length : Int) - 1)) then (if (wrap64 ((t483.length : Int) - 1)) < (t483.length : Int) then (laws_FnValuesOfNodes.j0 k l1 t478 t479 t480 t483 t488 bt491.1 (bt491.1 != (rd t483 (wrap64 ((t483.length : Int) - 1))))) else (none)) else (none)) else (laws_FnValuesOfNodes.j0 k l1 t478 t479 t480 t483 t488 bt491.1 false))) else (laws_FnValuesOfNodes.j0 k l1 t478 t479 t480 t483 t488 bt491.1 true))))) = some r := H
  have A7 := zK A70
  clear A70
  replace H := Option.bind_eq_some_iff.mp H
  obtain ⟨⟨t491, t492⟩, A80, H⟩ := H
  replace H : (if (t484 != t488) = true then (laws_FnValuesOfNodes.j0 k l1 t478 t479 t480 t483 t488 t491 true) else ((laws_pSame.f k t483 t487).bind fun t493 => (if t493 = true then (if (t492 != t484) = true then (laws_FnValuesOfNodes.j0 k l1 t478 t479 t480 t483 t488 t491 true) else (if t484 = true then (if 0 ≤ (wrap64 ((t483.length : Int) - 1)) then (if (wrap64 ((t483.length : Int) - 1)) < (t483.length : Int) then (laws_FnValuesOfNodes.j0 k l1 t478 t479 t480 t483 t488 t491 (t491 != (rd t483 (wrap64 ((t483.length : Int) - 1))))) else (none)) else (none)) else (laws_FnValuesOfNodes.j0 k l1 t478 t479 t480 t483 t488 t491 false))) else (laws_FnValuesOfNodes.j0 k l1 t478 t479 t480 t483 t488 t491 true)))) = some r := H
  have A8 := zK A80
  clear A80
  have HC9 := zK H
  clear H
  go_enter Try.func4, Try.ntmps4
  go_upto_region 7 with (first | ((with_reducible refine gate_callee (f := 8) rfl ?_); refine goesL_ (some 34) rfl rfl Try.func8 (by kernel_rfl) rfl #[.slice A0 l0.length c0, .slice A1 l1.length c1] rfl (by (try simp only [z6, z7, z8]); first | done | rfl | (simp only [z4, z5]; rfl)) ?_; (with_reducible refine (laws_big.calls _ _ l0 _ _ l1 false _ ?side1 ?side2 ?side3 ?side4 A3.out).mono ?_); (case side1 => repeat (first | exact HR0.out | (with_reducible refine Kd.C_alloc ?_ _) | (with_reducible refine Kd.C_drewN ?_ _) | (with_reducible refine Kd.C_drew ?_))); (case side2 => exact HC0.out); (case side3 => repeat (first | exact HR1.out | (with_reducible refine Kd.C_alloc ?_ _) | (with_reducible refine Kd.C_drewN ?_ _) | (with_reducible refine Kd.C_drew ?_))); (case side4 => exact HC1.out); rintro e w' ⟨rfl, ⟨nd, rfl⟩⟩; refine ⟨_, rfl, ?_⟩) | ((with_reducible refine gate_callee (f := 21) rfl ?_); refine goesL_ (some 37) rfl rfl Try.func21 (by kernel_rfl) rfl #[.slice A0 l0.length c0] rfl (by (try simp only [z6, z7, z8]); first | done | rfl | (simp only [z4, z5]; rfl)) ?_; (with_reducible refine (spec_DrawValuesOf.calls k _ _ l0 t478 t479 t480 _ ?side1 ?side2 A5.out).mono ?_); (case side1 => repeat (first | exact HR0.out | (with_reducible refine Kd.C_alloc ?_ _) | (with_reducible refine Kd.C_drewN ?_ _) | (with_reducible refine Kd.C_drew ?_))); (case side2 => exact HC0.out); rintro e w10 ⟨v481, rfl, ho0, hb⟩; refine ⟨_, rfl, ?_⟩; have n0_ := zK (Kd.R_lower ho0 (zN (by repeat (first | (with_reducible first | exact HB.out | apply zA | apply zB | apply zC) | exact HB.out)))); have n1_ := zK (zL (by repeat (first | (with_reducible first | exact HB.out | apply zA | apply zB | apply zC) | exact HB.out)) hb); clear HB; have HO482 := n0_; have HB := n1_; clear n0_ n1_; (try clear hb); (try clear hb2); (try clear hk); (try clear hi); (try clear ho0); obtain ⟨Ao11, co11, eo11⟩ := Kd.R_slice HO482.out; subst eo11) | ((with_reducible refine gate_callee (f := 22) rfl ?_); refine goesL_ (some 45) rfl rfl Try.func22 (by kernel_rfl) rfl #[.slice Ao11 t478.length co11, .int .i64 t479, .int .i64 t480] rfl (by (try simp only [z6, z7, z8]); first | done | rfl | (simp only [z4, z5]; rfl)) ?_; (with_reducible refine (impl_ValuesOf.calls k _ _ t478 t479 t480 t483 t484 _ ?side1 ?side2 A6.out).mono ?_); (case side1 => repeat (first | exact (Kd.R_reads' HO482.out).2.2 | (with_reducible refine Kd.C_alloc ?_ _) | (with_reducible refine Kd.C_drewN ?_ _) | (with_reducible refine Kd.C_drew ?_))); (case side2 => exact (Kd.R_reads' HO482.out).2.1); rintro e w12 ⟨v485, rfl, ho0, hb⟩; refine ⟨_, rfl, ?_⟩; have n0_ := zK (Kd.R_below (by (with_reducible repeat (first | apply Kd.R_alloc | apply Kd.R_drewN | apply Kd.R_drew)); exact HO482.out) hb); have n1_ := zK (Kd.R_lower ho0 (zN (by repeat (first | (with_reducible first | exact HB.out | apply zA | apply zB | apply zC) | exact HB.out)))); have n2_ := zK (zL (by repeat (first | (with_reducible first | exact HB.out | apply zA | apply zB | apply zC) | exact HB.out)) hb); clear HO482; clear HB; have HO482 := n0_; have HO486 := n1_; have HB := n2_; clear n0_ n1_ n2_; (try clear hb); (try clear hb2); (try clear hk); (try clear hi); (try clear ho0)) | ((with_reducible refine gate_callee (f := 23) rfl ?_); refine goesL_ (some 52) rfl rfl Try.func23 (by kernel_rfl) rfl #[.slice Ao11 t478.length co11, .int .i64 t479, .int .i64 t480] rfl (by (try simp only [z6, z7, z8]); first | done | rfl | (simp only [z4, z5]; rfl)) ?_; (with_reducible refine (spec_ValuesOf.calls k _ _ t478 t479 t480 t487 t488 _ ?side1 ?side2 A7.out).mono ?_); (case side1 => repeat (first | exact (Kd.R_reads' HO482.out).2.2 | (with_reducible refine Kd.C_alloc ?_ _) | (with_reducible refine Kd.C_drewN ?_ _) | (with_reducible refine Kd.C_drew ?_))); (case side2 => exact (Kd.R_reads' HO482.out).2.1); rintro e w13 ⟨v489, rfl, ho0, hb⟩; refine ⟨_, rfl, ?_⟩; have n0_ := zK (Kd.R_below (by (with_reducible repeat (first | apply Kd.R_alloc | apply Kd.R_drewN | apply Kd.R_drew)); exact HO482.out) hb); have n1_ := zK (Kd.R_elder' (by (with_reducible repeat (first | apply Kd.R_alloc | apply Kd.R_drewN | apply Kd.R_drew)); exact HO486.out) (Kd.R_base ho0) hb); have n2_ := zK (Kd.R_lower (Kd.R_new' ho0 (Kd.R_lt (by (with_reducible repeat (first | apply Kd.R_alloc | apply Kd.R_drewN | apply Kd.R_drew)); exact HO486.out))) (zN (by repeat (first | (with_reducible first | exact HB.out | apply zA | apply zB | apply zC) | exact HB.out)))); have n3_ := zK (zL (by repeat (first | (with_reducible first | exact HB.out | apply zA | apply zB | apply zC) | exact HB.out)) hb); clear HO482; clear HO486; clear HB; have HO482 := n0_; have HO486 := n1_; have HO490 := n2_; have HB := n3_; clear n0_ n1_ n2_ n3_; (try clear hb); (try clear hb2); (try clear hk); (try clear hi); (try clear ho0)) | ((with_reducible refine gate_callee (f := 19) rfl ?_); refine goesL_ (some 59) rfl rfl Try.func19 (by kernel_rfl) rfl #[.slice Ao11 t478.length co11, .int .i64 t479, .int .i64 t480] rfl (by (try simp only [z6, z7, z8]); first | done | rfl | (simp only [z4, z5]; rfl)) ?_; (with_reducible refine (impl_EvalExpr.calls k _ _ t478 t479 t480 t491 t492 _ ?side1 ?side2 A8.out).mono ?_); (case side1 => repeat (first | exact (Kd.R_reads' HO482.out).2.2 | (with_reducible refine Kd.C_alloc ?_ _) | (with_reducible refine Kd.C_drewN ?_ _) | (with_reducible refine Kd.C_drew ?_))); (case side2 => exact (Kd.R_reads' HO482.out).2.1); rintro e w14 ⟨rfl, hb⟩; refine ⟨_, rfl, ?_⟩; have n0_ := zK (Kd.R_below (by (with_reducible repeat (first | apply Kd.R_alloc | apply Kd.R_drewN | apply Kd.R_drew)); exact HO482.out) hb); have n1_ := zK (Kd.R_below (by (with_reducible repeat (first | apply Kd.R_alloc | apply Kd.R_drewN | apply Kd.R_drew)); exact HO486.out) hb); have n2_ := zK (Kd.R_below (by (with_reducible repeat (first | apply Kd.R_alloc | apply Kd.R_drewN | apply Kd.R_drew)); exact HO490.out) hb); have n3_ := zK (zL (by repeat (first | (with_reducible first | exact HB.out | apply zA | apply zB | apply zC) | exact HB.out)) hb); clear HO482; clear HO486; clear HO490; clear HB; have HO482 := n0_; have HO486 := n1_; have HO490 := n2_; have HB := n3_; clear n0_ n1_ n2_ n3_; (try clear hb); (try clear hb2); (try clear hk); (try clear hi)))
  (try simp only [Act.put, z1, z2, z3])
  go_cut [88] (fun v88 wc => ∃ (kq : Nat) (x88_8 : Bool), v88 = .bool x88_8 ∧ Aside0 (laws_FnValuesOfNodes.j0 kq l1 t478 t479 t480 t483 t488 t491 x88_8 = some r) ∧ Aside0 (kq ≤ k) ∧ Aside0 (Kd.R k47 47 wc w.heap.size (fun _ => True) (.slice Ao11 t478.length co11) t478) ∧ Aside0 (Kd.R (Kd.int .i64) 3 wc w.heap.size (fun _ => True) v485 t483) ∧ Aside0 (Below w.heap.size w wc))
  case first =>
   have H := HC9.out
   clear HC9
   by_cases c15 : (t484 != t488) = true
   ·as_aux_lemma =>
    rw [if_pos c15] at H
    have c15b0 : (t484 != t488) = true := c15
    (try (have c15b1 : decide (t484 = t488) = false := by simpa using c15))
    (try (have c15b2 : (t484 == t488) = false := by simpa using c15))
    (try (have c15b3 : ¬ (t484 = t488) := by simpa using c15))
    clear c15
    (first | rw [c15b0] | (simp only [i64_w, i32_w]; rw [c15b0]) | skip)
    have H' := zK H
    clear H
    go_wp2
    go_meet
    case rel => exact ⟨_, (true), (by first | rfl | (simp; done) | (simp [*]; done)), H', ⟨by first | omega | exact Nat.le_refl _⟩, ⟨by (with_reducible repeat (first | apply Kd.R_alloc | apply Kd.R_drewN | apply Kd.R_drew)); exact HO482.out⟩, ⟨by (with_reducible repeat (first | apply Kd.R_alloc | apply Kd.R_drewN | apply Kd.R_drew)); exact Kd.R_mono HO486.out (fun _ hk => trivial)⟩, ⟨by repeat (first | (with_reducible first | exact HB.out | apply zA | apply zB | apply zC) | exact HB.out)⟩⟩
   ·as_aux_lemma =>
    rw [if_neg c15] at H
    have c15b0 : (t484 != t488) = false := by simpa using c15
    (try (have c15b1 : decide (t484 = t488) = true := by simpa using c15))
    (try (have c15b2 : (t484 == t488) = true := by simpa using c15))
    clear c15
    (first | rw [c15b0] | (simp only [i64_w, i32_w]; rw [c15b0]) | skip)
    replace H := Option.bind_eq_some_iff.mp H
    obtain ⟨t493, A160, H⟩ := H
    replace H : (if t493 = true then (if (t492 != t484) = true then (laws_FnValuesOfNodes.j0 k l1 t478 t479 t480 t483 t488 t491 true) else (if t484 = true then (if 0 ≤ (wrap64 ((t483.length : Int) - 1)) then (if (wrap64 ((t483.length : Int) - 1)) < (t483.length : Int) then (laws_FnValuesOfNodes.j0 k l1 t478 t479 t480 t483 t488 t491 (t491 != (rd t483 (wrap64 ((t483.length : Int) - 1))))) else (none)) else (none)) else (laws_FnValuesOfNodes.j0 k l1 t478 t479 t480 t483 t488 t491 false))) else (laws_FnValuesOfNodes.j0 k l1 t478 t479 t480 t483 t488 t491 true)) = some r := H
    have A16 := zK A160
    clear A160
    by_cases c17 : t493 = true
    ·subst c17
     have H1 : (if (t492 != t484) = true then (laws_FnValuesOfNodes.j0 k l1 t478 t479 t480 t483 t488 t491 true) else (if t484 = true then (if 0 ≤ (wrap64 ((t483.length : Int) - 1)) then (if (wrap64 ((t483.length : Int) - 1)) < (t483.length : Int) then (laws_FnValuesOfNodes.j0 k l1 t478 t479 t480 t483 t488 t491 (t491 != (rd t483 (wrap64 ((t483.length : Int) - 1))))) else (none)) else (none)) else (laws_FnValuesOfNodes.j0 k l1 t478 t479 t480 t483 t488 t491 false))) = some r := by rw [if_pos rfl] at H; exact H
     clear H
     have H := H1
     clear H1
     by_cases c18 : (t492 != t484) = true
     ·as_aux_lemma =>
      rw [if_pos c18] at H
      have c18b0 : (t492 != t484) = true := c18
      (try (have c18b1 : decide (t492 = t484) = false := by simpa using c18))
      (try (have c18b2 : (t492 == t484) = false := by simpa using c18))
      (try (have c18b3 : ¬ (t492 = t484) := by simpa using c18))
      clear c18
      have H' := zK H
      clear H
      obtain ⟨Ao19, co19, eo19⟩ := Kd.R_slice HO486.out
      subst eo19
      obtain ⟨Ao20, co20, eo20⟩ := Kd.R_slice HO490.out
      subst eo20
      go_wp2_with (first | (go_at_call 18; (with_reducible refine (laws_pSame.calls k _ _ t483 _ _ t487 true _ ?side1 ?side2 ?side3 ?side4 A16.out).mono ?_); (case side1 => repeat (first | exact (Kd.R_reads' HO486.out).2.2 | (with_reducible refine Kd.C_alloc ?_ _) | (with_reducible refine Kd.C_drewN ?_ _) | (with_reducible refine Kd.C_drew ?_))); (case side2 => exact (Kd.R_reads' HO486.out).2.1); (case side3 => repeat (first | exact (Kd.R_reads' HO490.out).2.2 | (with_reducible refine Kd.C_alloc ?_ _) | (with_reducible refine Kd.C_drewN ?_ _) | (with_reducible refine Kd.C_drew ?_))); (case side4 => exact (Kd.R_reads' HO490.out).2.1); rintro e w' ⟨rfl, ⟨nd, rfl⟩⟩))
      go_meet
      case rel => exact ⟨_, (true), (by first | rfl | (simp; done) | (simp [*]; done)), H', ⟨by first | omega | exact Nat.le_refl _⟩, ⟨by (with_reducible repeat (first | apply Kd.R_alloc | apply Kd.R_drewN | apply Kd.R_drew)); exact HO482.out⟩, ⟨by (with_reducible repeat (first | apply Kd.R_alloc | apply Kd.R_drewN | apply Kd.R_drew)); exact Kd.R_mono HO486.out (fun _ hk => trivial)⟩, ⟨by repeat (first | (with_reducible first | exact HB.out | apply zA | apply zB | apply zC) | exact HB.out)⟩⟩
     ·as_aux_lemma =>
      rw [if_neg c18] at H
      have c18b0 : (t492 != t484) = false := by simpa using c18
      (try (have c18b1 : decide (t492 = t484) = true := by simpa using c18))
      (try (have c18b2 : (t492 == t484) = true := by simpa using c18))
      clear c18
      by_cases c21 : t484 = true
      ·subst c21
       have H1 : (if 0 ≤ (wrap64 ((t483.length : Int) - 1)) then (if (wrap64 ((t483.length : Int) - 1)) < (t483.length : Int) then (laws_FnValuesOfNodes.j0 k l1 t478 t479 t480 t483 t488 t491 (t491 != (rd t483 (wrap64 ((t483.length : Int) - 1))))) else (none)) else (none)) = some r := by rw [if_pos rfl] at H; exact H
       clear H
       have H := H1
       clear H1
       obtain ⟨ji22, hji22⟩ : ∃ j_ : Int, (wrap64 ((t483.length : Int) - 1)) = j_ := ⟨_, rfl⟩
       replace H : (if 0 ≤ (ji22) then (if (ji22) < (t483.length : Int) then (laws_FnValuesOfNodes.j0 k l1 t478 t479 t480 t483 t488 t491 (t491 != (rd t483 (ji22)))) else (none)) else (none)) = some r := by first | (rw [hji22] at H; exact H) | (simp only [hji22] at H ⊢; exact H)
       (try rw [hji22] at A16)
       have hji22w : (IntKind.i64.wrap ((t483.length : Int) - 1)) = ji22 := (i64_w _).trans hji22
       by_cases c23 : 0 ≤ (ji22)
       ·as_aux_lemma =>
        rw [if_pos c23] at H
        have c23b0 : decide (0 ≤ (ji22)) = true := decide_eq_true c23
        clear c23
        by_cases c24 : (ji22) < (t483.length : Int)
        ·as_aux_lemma =>
         rw [if_pos c24] at H
         have c24b0 : decide ((ji22) < (t483.length : Int)) = true := decide_eq_true c24
         clear c24
         have H' := zK H
         clear H
         obtain ⟨Ao25, co25, eo25⟩ := Kd.R_slice HO486.out
         subst eo25
         obtain ⟨Ao26, co26, eo26⟩ := Kd.R_slice HO490.out
         subst eo26
         go_wp2_with (first | (go_at_call 18; (with_reducible refine (laws_pSame.calls k _ _ t483 _ _ t487 true _ ?side1 ?side2 ?side3 ?side4 A16.out).mono ?_); (case side1 => repeat (first | exact (Kd.R_reads' HO486.out).2.2 | (with_reducible refine Kd.C_alloc ?_ _) | (with_reducible refine Kd.C_drewN ?_ _) | (with_reducible refine Kd.C_drew ?_))); (case side2 => exact (Kd.R_reads' HO486.out).2.1); (case side3 => repeat (first | exact (Kd.R_reads' HO490.out).2.2 | (with_reducible refine Kd.C_alloc ?_ _) | (with_reducible refine Kd.C_drewN ?_ _) | (with_reducible refine Kd.C_drew ?_))); (case side4 => exact (Kd.R_reads' HO490.out).2.1); rintro e w' ⟨rfl, ⟨nd, rfl⟩⟩; have p494 : 0 ≤ ((ji22) : Int) := zo; have q494 : (ji22) < (t483.length : Int) := zo; obtain ⟨ad494, e494, hx494_0⟩ := Kd.at_int (Kd.R_reads' HO486.out).2.2 (ji22) p494 q494; cases e494; replace p494 := eq_true p494; replace q494 := eq_true q494))
         go_meet
         case rel => exact ⟨_, ((t491 != (rd t483 (ji22)))), (by first | rfl | (simp; done) | (simp only [← hji22] <;> (first | rfl | simp)) | (simp [*]; done)), H', ⟨by first | omega | exact Nat.le_refl _⟩, ⟨by (with_reducible repeat (first | apply Kd.R_alloc | apply Kd.R_drewN | apply Kd.R_drew)); exact HO482.out⟩, ⟨by (with_reducible repeat (first | apply Kd.R_alloc | apply Kd.R_drewN | apply Kd.R_drew)); exact Kd.R_mono HO486.out (fun _ hk => trivial)⟩, ⟨by repeat (first | (with_reducible first | exact HB.out | apply zA | apply zB | apply zC) | exact HB.out)⟩⟩
        ·as_aux_lemma =>
         rw [if_neg c24] at H
         exact absurd H (by simp)
       ·as_aux_lemma =>
        rw [if_neg c23] at H
        exact absurd H (by simp)
      ·replace c21 := Bool.eq_false_iff.mpr c21
       subst c21
       have H1 : (laws_FnValuesOfNodes.j0 k l1 t478 t479 t480 t483 t488 t491 false) = some r := by rw [if_neg (show ¬ (false = true) by decide)] at H; exact H
       clear H
       have H := H1
       clear H1
       have H' := zK H
       clear H
       obtain ⟨Ao27, co27, eo27⟩ := Kd.R_slice HO486.out
       subst eo27
       obtain ⟨Ao28, co28, eo28⟩ := Kd.R_slice HO490.out
       subst eo28
       go_wp2_with (first | (go_at_call 18; (with_reducible refine (laws_pSame.calls k _ _ t483 _ _ t487 true _ ?side1 ?side2 ?side3 ?side4 A16.out).mono ?_); (case side1 => repeat (first | exact (Kd.R_reads' HO486.out).2.2 | (with_reducible refine Kd.C_alloc ?_ _) | (with_reducible refine Kd.C_drewN ?_ _) | (with_reducible refine Kd.C_drew ?_))); (case side2 => exact (Kd.R_reads' HO486.out).2.1); (case side3 => repeat (first | exact (Kd.R_reads' HO490.out).2.2 | (with_reducible refine Kd.C_alloc ?_ _) | (with_reducible refine Kd.C_drewN ?_ _) | (with_reducible refine Kd.C_drew ?_))); (case side4 => exact (Kd.R_reads' HO490.out).2.1); rintro e w' ⟨rfl, ⟨nd, rfl⟩⟩))
       go_meet
       case rel => exact ⟨_, (false), (by first | rfl | (simp; done) | (simp [*]; done)), H', ⟨by first | omega | exact Nat.le_refl _⟩, ⟨by (with_reducible repeat (first | apply Kd.R_alloc | apply Kd.R_drewN | apply Kd.R_drew)); exact HO482.out⟩, ⟨by (with_reducible repeat (first | apply Kd.R_alloc | apply Kd.R_drewN | apply Kd.R_drew)); exact Kd.R_mono HO486.out (fun _ hk => trivial)⟩, ⟨by repeat (first | (with_reducible first | exact HB.out | apply zA | apply zB | apply zC) | exact HB.out)⟩⟩
    ·replace c17 := Bool.eq_false_iff.mpr c17
     subst c17
     have H1 : (laws_FnValuesOfNodes.j0 k l1 t478 t479 t480 t483 t488 t491 true) = some r := by rw [if_neg (show ¬ (false = true) by decide)] at H; exact H
     clear H
     have H := H1
     clear H1
     have H' := zK H
     clear H
     obtain ⟨Ao29, co29, eo29⟩ := Kd.R_slice HO486.out
     subst eo29
     obtain ⟨Ao30, co30, eo30⟩ := Kd.R_slice HO490.out
     subst eo30
     go_wp2_with (first | (go_at_call 18; (with_reducible refine (laws_pSame.calls k _ _ t483 _ _ t487 false _ ?side1 ?side2 ?side3 ?side4 A16.out).mono ?_); (case side1 => repeat (first | exact (Kd.R_reads' HO486.out).2.2 | (with_reducible refine Kd.C_alloc ?_ _) | (with_reducible refine Kd.C_drewN ?_ _) | (with_reducible refine Kd.C_drew ?_))); (case side2 => exact (Kd.R_reads' HO486.out).2.1); (case side3 => repeat (first | exact (Kd.R_reads' HO490.out).2.2 | (with_reducible refine Kd.C_alloc ?_ _) | (with_reducible refine Kd.C_drewN ?_ _) | (with_reducible refine Kd.C_drew ?_))); (case side4 => exact (Kd.R_reads' HO490.out).2.1); rintro e w' ⟨rfl, ⟨nd, rfl⟩⟩))
     go_meet
     case rel => exact ⟨_, (true), (by first | rfl | (simp; done) | (simp [*]; done)), H', ⟨by first | omega | exact Nat.le_refl _⟩, ⟨by (with_reducible repeat (first | apply Kd.R_alloc | apply Kd.R_drewN | apply Kd.R_drew)); exact HO482.out⟩, ⟨by (with_reducible repeat (first | apply Kd.R_alloc | apply Kd.R_drewN | apply Kd.R_drew)); exact Kd.R_mono HO486.out (fun _ hk => trivial)⟩, ⟨by repeat (first | (with_reducible first | exact HB.out | apply zA | apply zB | apply zC) | exact HB.out)⟩⟩
  case rest =>
   clear HC9
   try clear c1
   try clear c2
   try clear p2
   try clear c4
   try clear p4
   try clear q4
   try clear hx4
   try clear p6
   try clear c8
   try clear c15
   try clear c15b0
   try clear c15b1
   try clear c15b2
   try clear c17
   try clear c18
   try clear c18b0
   try clear c18b1
   try clear c18b2
   try clear c19
   try clear c21
   try clear c22
   try clear c23
   try clear c23b0
   try clear c24
   try clear c24b0
   try clear hx494_0
   try clear p494
   try clear q494
   obtain ⟨kq, x88_8, rfl, HA, HJ8, HO_5, HO_8, HB⟩ := hcut
   cases kq with
   | zero => exact absurd HA.out (by simp [laws_FnValuesOfNodes.j0])
   | succ kj8 =>
    have H := HA.out
    clear HA
    simp only [laws_FnValuesOfNodes.j0] at H
    by_cases c31 : x88_8 = true
    ·subst c31
     have H1 : (some false) = some r := by rw [if_pos rfl] at H; exact H
     clear H
     have H := H1
     clear H1
     exact absurd ((Option.some.inj H).trans hr) (by decide)
    ·replace c31 := Bool.eq_false_iff.mpr c31
     subst c31
     have H1 : ((spec_DrawTableOf.f kj8 l1).bind fun t495 => ((impl_TableOf.f kj8 t495).bind fun bt498 => ((spec_TableOf.f kj8 t495).bind fun bt502 => (if (bt498.2 != bt502.2) = true then (laws_FnValuesOfNodes.j1 kj8 l1 t478 t479 t480 t483 t488 t491 true) else ((laws_pSame.f kj8 bt498.1 bt502.1).bind fun t506 => (if t506 = true then ((impl_IsExpr.f kj8 t495).bind fun t507 => (laws_FnValuesOfNodes.j1 kj8 l1 t478 t479 t480 t483 t488 t491 (bt498.2 != t507))) else (laws_FnValuesOfNodes.j1 kj8 l1 t478 t479 t480 t483 t488 t491 true))))))) = some r := by rw [if_neg (show ¬ (false = true) by decide)] at H; exact H
     clear H
     have H := H1
     clear H1
     replace H := Option.bind_eq_some_iff.mp H
     obtain ⟨t495, A320, H⟩ := H
     replace H : ((impl_TableOf.f kj8 t495).bind fun bt498 => ((spec_TableOf.f kj8 t495).bind fun bt502 => (if (bt498.2 != bt502.2) = true then (laws_FnValuesOfNodes.j1 kj8 l1 t478 t479 t480 t483 t488 t491 true) else ((laws_pSame.f kj8 bt498.1 bt502.1).bind fun t506 => (if t506 = true then ((impl_IsExpr.f kj8 t495).bind fun t507 => (laws_FnValuesOfNodes.j1 kj8 l1 t478 t479 t480 t483 t488 t491 (bt498.2 != t507))) else (laws_FnValuesOfNodes.j1 kj8 l1 t478 t479 t480 t483 t488 t491 true)))))) = some r := H
     have A32 := zK A320
     clear A320
     replace H := Option.bind_eq_some_iff.mp H
     obtain ⟨⟨t498, t499⟩, A330, H⟩ := H
     replace H : ((spec_TableOf.f kj8 t495).bind fun bt502 => (if (t499 != bt502.2) = true then (laws_FnValuesOfNodes.j1 kj8 l1 t478 t479 t480 t483 t488 t491 true) else ((laws_pSame.f kj8 t498 bt502.1).bind fun t506 => (if t506 = true then ((impl_IsExpr.f kj8 t495).bind fun t507 => (laws_FnValuesOfNodes.j1 kj8 l1 t478 t479 t480 t483 t488 t491 (t499 != t507))) else (laws_FnValuesOfNodes.j1 kj8 l1 t478 t479 t480 t483 t488 t491 true))))) = some r := H
     have A33 := zK A330
     clear A330
     replace H := Option.bind_eq_some_iff.mp H
     obtain ⟨⟨t502, t503⟩, A340, H⟩ := H
     replace H : (if (t499 != t503) = true then (laws_FnValuesOfNodes.j1 kj8 l1 t478 t479 t480 t483 t488 t491 true) else ((laws_pSame.f kj8 t498 t502).bind fun t506 => (if t506 = true then ((impl_IsExpr.f kj8 t495).bind fun t507 => (laws_FnValuesOfNodes.j1 kj8 l1 t478 t479 t480 t483 t488 t491 (t499 != t507))) else (laws_FnValuesOfNodes.j1 kj8 l1 t478 t479 t480 t483 t488 t491 true)))) = some r := H
     have A34 := zK A340
     clear A340
     have HC35 := zK H
     clear H
     go_upto_region 12 with (first | ((with_reducible refine gate_callee (f := 24) rfl ?_); refine goesL_ (some 90) rfl rfl Try.func24 (by kernel_rfl) rfl #[.slice A1 l1.length c1] rfl (by (try simp only [z6, z7, z8]); first | done | rfl | (simp only [z4, z5]; rfl)) ?_; (with_reducible refine (spec_DrawTableOf.calls kj8 _ _ l1 t495 _ ?side1 ?side2 A32.out).mono ?_); (case side1 => repeat (first | exact (Kd.C_below HR1.out HB.out) | (with_reducible refine Kd.C_alloc ?_ _) | (with_reducible refine Kd.C_drewN ?_ _) | (with_reducible refine Kd.C_drew ?_))); (case side2 => exact HC1.out); rintro e w36 ⟨v496, rfl, ho0, hb⟩; refine ⟨_, rfl, ?_⟩; have n0_ := zK (Kd.R_elder' (by (with_reducible repeat (first | apply Kd.R_alloc | apply Kd.R_drewN | apply Kd.R_drew)); exact HO_5.out) (Kd.R_base ho0) hb); have n1_ := zK (Kd.R_below (by (with_reducible repeat (first | apply Kd.R_alloc | apply Kd.R_drewN | apply Kd.R_drew)); exact HO_8.out) hb); have n2_ := zK (Kd.R_lower (Kd.R_new' ho0 (Kd.R_lt (by (with_reducible repeat (first | apply Kd.R_alloc | apply Kd.R_drewN | apply Kd.R_drew)); exact HO_5.out))) (zN (by repeat (first | (with_reducible first | exact HB.out | apply zA | apply zB | apply zC) | exact HB.out)))); have n3_ := zK (zL (by repeat (first | (with_reducible first | exact HB.out | apply zA | apply zB | apply zC) | exact HB.out)) hb); clear HO_5; clear HO_8; clear HB; have HO_5 := n0_; have HO_8 := n1_; have HO497 := n2_; have HB := n3_; clear n0_ n1_ n2_ n3_; (try clear hb); (try clear hb2); (try clear hk); (try clear hi); (try clear ho0); obtain ⟨Ao37, co37, eo37⟩ := Kd.R_slice HO497.out; subst eo37) | ((with_reducible refine gate_callee (f := 25) rfl ?_); refine goesL_ (some 93) rfl rfl Try.func25 (by kernel_rfl) rfl #[.slice Ao37 t495.length co37] rfl (by (try simp only [z6, z7, z8]); first | done | rfl | (simp only [z4, z5]; rfl)) ?_; (with_reducible refine (impl_TableOf.calls kj8 _ _ t495 t498 t499 _ ?side1 ?side2 A33.out).mono ?_); (case side1 => repeat (first | exact (Kd.R_reads' HO497.out).2.2 | (with_reducible refine Kd.C_alloc ?_ _) | (with_reducible refine Kd.C_drewN ?_ _) | (with_reducible refine Kd.C_drew ?_))); (case side2 => exact (Kd.R_reads' HO497.out).2.1); rintro e w38 ⟨v500, rfl, ho0, hb⟩; refine ⟨_, rfl, ?_⟩; have n0_ := zK (Kd.R_below (by (with_reducible repeat (first | apply Kd.R_alloc | apply Kd.R_drewN | apply Kd.R_drew)); exact HO_5.out) hb); have n1_ := zK (Kd.R_elder' (by (with_reducible repeat (first | apply Kd.R_alloc | apply Kd.R_drewN | apply Kd.R_drew)); exact HO_8.out) (Kd.R_base ho0) hb); have n2_ := zK (Kd.R_below (by (with_reducible repeat (first | apply Kd.R_alloc | apply Kd.R_drewN | apply Kd.R_drew)); exact HO497.out) hb); have n3_ := zK (Kd.R_lower (Kd.R_new' ho0 (Kd.R_lt (by (with_reducible repeat (first | apply Kd.R_alloc | apply Kd.R_drewN | apply Kd.R_drew)); exact HO_8.out))) (zN (by repeat (first | (with_reducible first | exact HB.out | apply zA | apply zB | apply zC) | exact HB.out)))); have n4_ := zK (zL (by repeat (first | (with_reducible first | exact HB.out | apply zA | apply zB | apply zC) | exact HB.out)) hb); clear HO_5; clear HO_8; clear HO497; clear HB; have HO_5 := n0_; have HO_8 := n1_; have HO497 := n2_; have HO501 := n3_; have HB := n4_; clear n0_ n1_ n2_ n3_ n4_; (try clear hb); (try clear hb2); (try clear hk); (try clear hi); (try clear ho0)) | ((with_reducible refine gate_callee (f := 26) rfl ?_); refine goesL_ (some 98) rfl rfl Try.func26 (by kernel_rfl) rfl #[.slice Ao37 t495.length co37] rfl (by (try simp only [z6, z7, z8]); first | done | rfl | (simp only [z4, z5]; rfl)) ?_; (with_reducible refine (spec_TableOf.calls kj8 _ _ t495 t502 t503 _ ?side1 ?side2 A34.out).mono ?_); (case side1 => repeat (first | exact (Kd.R_reads' HO497.out).2.2 | (with_reducible refine Kd.C_alloc ?_ _) | (with_reducible refine Kd.C_drewN ?_ _) | (with_reducible refine Kd.C_drew ?_))); (case side2 => exact (Kd.R_reads' HO497.out).2.1); rintro e w39 ⟨v504, rfl, ho0, hb⟩; refine ⟨_, rfl, ?_⟩; have n0_ := zK (Kd.R_below (by (with_reducible repeat (first | apply Kd.R_alloc | apply Kd.R_drewN | apply Kd.R_drew)); exact HO_5.out) hb); have n1_ := zK (Kd.R_elder' (by (with_reducible repeat (first | apply Kd.R_alloc | apply Kd.R_drewN | apply Kd.R_drew)); exact HO_8.out) (Kd.R_base ho0) hb); have n2_ := zK (Kd.R_below (by (with_reducible repeat (first | apply Kd.R_alloc | apply Kd.R_drewN | apply Kd.R_drew)); exact HO497.out) hb); have n3_ := zK (Kd.R_elder' (by (with_reducible repeat (first | apply Kd.R_alloc | apply Kd.R_drewN | apply Kd.R_drew)); exact HO501.out) (Kd.R_base ho0) hb); have n4_ := zK (Kd.R_lower (Kd.R_new' (Kd.R_new' ho0 (Kd.R_lt (by (with_reducible repeat (first | apply Kd.R_alloc | apply Kd.R_drewN | apply Kd.R_drew)); exact HO_8.out))) (Kd.R_lt (by (with_reducible repeat (first | apply Kd.R_alloc | apply Kd.R_drewN | apply Kd.R_drew)); exact HO501.out))) (zN (by repeat (first | (with_reducible first | exact HB.out | apply zA | apply zB | apply zC) | exact HB.out)))); have n5_ := zK (zL (by repeat (first | (with_reducible first | exact HB.out | apply zA | apply zB | apply zC) | exact HB.out)) hb); clear HO_5; clear HO_8; clear HO497; clear HO501; clear HB; have HO_5 := n0_; have HO_8 := n1_; have HO497 := n2_; have HO501 := n3_; have HO505 := n4_; have HB := n5_; clear n0_ n1_ n2_ n3_ n4_ n5_; (try clear hb); (try clear hb2); (try clear hk); (try clear hi); (try clear ho0)))
     (try simp only [Act.put, z1, z2, z3])
     go_cut [115] (fun v115 wc => ∃ (kq : Nat) (x115_34 : Bool), v115 = .bool x115_34 ∧ Aside0 (laws_FnValuesOfNodes.j1 kq l1 t478 t479 t480 t483 t488 t491 x115_34 = some r) ∧ Aside0 (kq ≤ kj8) ∧ Aside0 (Kd.R k47 47 wc w.heap.size (fun _ => True) (.slice Ao11 t478.length co11) t478) ∧ Aside0 (Kd.R (Kd.int .i64) 3 wc w.heap.size (fun _ => True) v485 t483) ∧ Aside0 (Below w.heap.size w wc))
     case first =>
      have H := HC35.out
      clear HC35
      by_cases c40 : (t499 != t503) = true
      ·as_aux_lemma =>
       rw [if_pos c40] at H
       have c40b0 : (t499 != t503) = true := c40
       (try (have c40b1 : decide (t499 = t503) = false := by simpa using c40))
       (try (have c40b2 : (t499 == t503) = false := by simpa using c40))
       (try (have c40b3 : ¬ (t499 = t503) := by simpa using c40))
       clear c40
       (first | rw [c40b0] | (simp only [i64_w, i32_w]; rw [c40b0]) | skip)
       have H' := zK H
       clear H
       go_wp2
       go_meet
       case rel => exact ⟨_, (true), (by first | rfl | (simp; done) | (simp [*]; done)), H', ⟨by have := HJ8.out; first | omega | exact Nat.le_refl _⟩, ⟨by (with_reducible repeat (first | apply Kd.R_alloc | apply Kd.R_drewN | apply Kd.R_drew)); exact Kd.R_mono HO_5.out (fun _ hk => trivial)⟩, ⟨by (with_reducible repeat (first | apply Kd.R_alloc | apply Kd.R_drewN | apply Kd.R_drew)); exact Kd.R_mono HO_8.out (fun _ hk => trivial)⟩, ⟨by repeat (first | (with_reducible first | exact HB.out | apply zA | apply zB | apply zC) | exact HB.out)⟩⟩
      ·as_aux_lemma =>
       rw [if_neg c40] at H
       have c40b0 : (t499 != t503) = false := by simpa using c40
       (try (have c40b1 : decide (t499 = t503) = true := by simpa using c40))
       (try (have c40b2 : (t499 == t503) = true := by simpa using c40))
       clear c40
       (first | rw [c40b0] | (simp only [i64_w, i32_w]; rw [c40b0]) | skip)
       replace H := Option.bind_eq_some_iff.mp H
       obtain ⟨t506, A410, H⟩ := H
       replace H : (if t506 = true then ((impl_IsExpr.f kj8 t495).bind fun t507 => (laws_FnValuesOfNodes.j1 kj8 l1 t478 t479 t480 t483 t488 t491 (t499 != t507))) else (laws_FnValuesOfNodes.j1 kj8 l1 t478 t479 t480 t483 t488 t491 true)) = some r := H
       have A41 := zK A410
       clear A410
       by_cases c42 : t506 = true
       ·subst c42
        have H1 : ((impl_IsExpr.f kj8 t495).bind fun t507 => (laws_FnValuesOfNodes.j1 kj8 l1 t478 t479 t480 t483 t488 t491 (t499 != t507))) = some r := by rw [if_pos rfl] at H; exact H
        clear H
        have H := H1
        clear H1
        replace H := Option.bind_eq_some_iff.mp H
        obtain ⟨t507, A430, H⟩ := H
        replace H : (laws_FnValuesOfNodes.j1 kj8 l1 t478 t479 t480 t483 t488 t491 (t499 != t507)) = some r := H
        have A43 := zK A430
        clear A430
        have H' := zK H
        clear H
        obtain ⟨Ao44, co44, eo44⟩ := Kd.R_slice HO501.out
        subst eo44
        obtain ⟨Ao45, co45, eo45⟩ := Kd.R_slice HO505.out
        subst eo45
        go_wp2_with (first | (go_at_call 18; (with_reducible refine (laws_pSame.calls kj8 _ _ t498 _ _ t502 true _ ?side1 ?side2 ?side3 ?side4 A41.out).mono ?_); (case side1 => repeat (first | exact (Kd.R_reads' HO501.out).2.2 | (with_reducible refine Kd.C_alloc ?_ _) | (with_reducible refine Kd.C_drewN ?_ _) | (with_reducible refine Kd.C_drew ?_))); (case side2 => exact (Kd.R_reads' HO501.out).2.1); (case side3 => repeat (first | exact (Kd.R_reads' HO505.out).2.2 | (with_reducible refine Kd.C_alloc ?_ _) | (with_reducible refine Kd.C_drewN ?_ _) | (with_reducible refine Kd.C_drew ?_))); (case side4 => exact (Kd.R_reads' HO505.out).2.1); rintro e w' ⟨rfl, ⟨nd, rfl⟩⟩) | (go_at_call 20; (with_reducible refine (impl_IsExpr.calls kj8 _ _ t495 t507 _ ?side1 ?side2 A43.out).mono ?_); (case side1 => repeat (first | exact (Kd.R_reads' HO497.out).2.2 | (with_reducible refine Kd.C_alloc ?_ _) | (with_reducible refine Kd.C_drewN ?_ _) | (with_reducible refine Kd.C_drew ?_))); (case side2 => exact (Kd.R_reads' HO497.out).2.1); rintro e w46 ⟨rfl, hb⟩; have n0_ := zK (Kd.R_below (by (with_reducible repeat (first | apply Kd.R_alloc | apply Kd.R_drewN | apply Kd.R_drew)); exact HO_5.out) hb); have n1_ := zK (Kd.R_below (by (with_reducible repeat (first | apply Kd.R_alloc | apply Kd.R_drewN | apply Kd.R_drew)); exact HO_8.out) hb); have n2_ := zK (Kd.R_below (by (with_reducible repeat (first | apply Kd.R_alloc | apply Kd.R_drewN | apply Kd.R_drew)); exact HO497.out) hb); have n3_ := zK (Kd.R_below (by (with_reducible repeat (first | apply Kd.R_alloc | apply Kd.R_drewN | apply Kd.R_drew)); exact HO501.out) hb); have n4_ := zK (Kd.R_below (by (with_reducible repeat (first | apply Kd.R_alloc | apply Kd.R_drewN | apply Kd.R_drew)); exact HO505.out) hb); have n5_ := zK (zL (by repeat (first | (with_reducible first | exact HB.out | apply zA | apply zB | apply zC) | exact HB.out)) hb); clear HO_5; clear HO_8; clear HO497; clear HO501; clear HO505; clear HB; have HO_5 := n0_; have HO_8 := n1_; have HO497 := n2_; have HO501 := n3_; have HO505 := n4_; have HB := n5_; clear n0_ n1_ n2_ n3_ n4_ n5_; (try clear hb); (try clear hb2); (try clear hk); (try clear hi)))
        go_meet
        case rel => exact ⟨_, ((t499 != t507)), (by first | rfl | (simp; done) | (simp [*]; done)), H', ⟨by have := HJ8.out; first | omega | exact Nat.le_refl _⟩, ⟨by (with_reducible repeat (first | apply Kd.R_alloc | apply Kd.R_drewN | apply Kd.R_drew)); exact Kd.R_mono HO_5.out (fun _ hk => trivial)⟩, ⟨by (with_reducible repeat (first | apply Kd.R_alloc | apply Kd.R_drewN | apply Kd.R_drew)); exact Kd.R_mono HO_8.out (fun _ hk => trivial)⟩, ⟨by repeat (first | (with_reducible first | exact HB.out | apply zA | apply zB | apply zC) | exact HB.out)⟩⟩
       ·replace c42 := Bool.eq_false_iff.mpr c42
        subst c42
        have H1 : (laws_FnValuesOfNodes.j1 kj8 l1 t478 t479 t480 t483 t488 t491 true) = some r := by rw [if_neg (show ¬ (false = true) by decide)] at H; exact H
        clear H
        have H := H1
        clear H1
        have H' := zK H
        clear H
        obtain ⟨Ao47, co47, eo47⟩ := Kd.R_slice HO501.out
        subst eo47
        obtain ⟨Ao48, co48, eo48⟩ := Kd.R_slice HO505.out
        subst eo48
        go_wp2_with (first | (go_at_call 18; (with_reducible refine (laws_pSame.calls kj8 _ _ t498 _ _ t502 false _ ?side1 ?side2 ?side3 ?side4 A41.out).mono ?_); (case side1 => repeat (first | exact (Kd.R_reads' HO501.out).2.2 | (with_reducible refine Kd.C_alloc ?_ _) | (with_reducible refine Kd.C_drewN ?_ _) | (with_reducible refine Kd.C_drew ?_))); (case side2 => exact (Kd.R_reads' HO501.out).2.1); (case side3 => repeat (first | exact (Kd.R_reads' HO505.out).2.2 | (with_reducible refine Kd.C_alloc ?_ _) | (with_reducible refine Kd.C_drewN ?_ _) | (with_reducible refine Kd.C_drew ?_))); (case side4 => exact (Kd.R_reads' HO505.out).2.1); rintro e w' ⟨rfl, ⟨nd, rfl⟩⟩))
        go_meet
        case rel => exact ⟨_, (true), (by first | rfl | (simp; done) | (simp [*]; done)), H', ⟨by have := HJ8.out; first | omega | exact Nat.le_refl _⟩, ⟨by (with_reducible repeat (first | apply Kd.R_alloc | apply Kd.R_drewN | apply Kd.R_drew)); exact Kd.R_mono HO_5.out (fun _ hk => trivial)⟩, ⟨by (with_reducible repeat (first | apply Kd.R_alloc | apply Kd.R_drewN | apply Kd.R_drew)); exact Kd.R_mono HO_8.out (fun _ hk => trivial)⟩, ⟨by repeat (first | (with_reducible first | exact HB.out | apply zA | apply zB | apply zC) | exact HB.out)⟩⟩
     case rest =>
      clear HC35
      try clear c1
      try clear c2
      try clear p2
      try clear c3
      try clear c4
      try clear p4
      try clear q4
      try clear hx4
      try clear p6
      try clear c8
      try clear c15
      try clear c15b0
      try clear c15b1
      try clear c15b2
      try clear c17
      try clear c18
      try clear c18b0
      try clear c18b1
      try clear c18b2
      try clear c19
      try clear c21
      try clear c22
      try clear c23
      try clear c23b0
      try clear c24
      try clear c24b0
      try clear c25
      try clear c26
      try clear c31
      try clear c40
      try clear c40b0
      try clear c40b1
      try clear c40b2
      try clear c42
      try clear hx494_0
      try clear p2
      try clear p4
      try clear p494
      try clear p6
      try clear q4
      try clear q494
      obtain ⟨kq, x115_34, rfl, HA, HJ34, HO_5, HO_8, HB⟩ := hcut
      cases kq with
      | zero => exact absurd HA.out (by simp [laws_FnValuesOfNodes.j1])
      | succ kj34 =>
       have H := HA.out
       clear HA
       simp only [laws_FnValuesOfNodes.j1] at H
       by_cases c49 : x115_34 = true
       ·subst c49
        have H1 : (some false) = some r := by rw [if_pos rfl] at H; exact H
        clear H
        have H := H1
        clear H1
        exact absurd ((Option.some.inj H).trans hr) (by decide)
       ·replace c49 := Bool.eq_false_iff.mpr c49
        subst c49
        have H1 : ((spec_DrawApplyOp.f kj34 l1).bind fun bt508 => ((impl_ApplyOp.f kj34 bt508.1 bt508.2.1 bt508.2.2).bind fun bt511 => ((spec_ApplyOp.f kj34 bt508.1 bt508.2.1 bt508.2.2).bind fun bt513 => (if (bt511.2 != bt513.2) = true then (laws_FnValuesOfNodes.j2 kj34 t478 t479 t480 t483 t488 t491 true) else (laws_FnValuesOfNodes.j2 kj34 t478 t479 t480 t483 t488 t491 (bt511.1 != bt513.1)))))) = some r := by rw [if_neg (show ¬ (false = true) by decide)] at H; exact H
        clear H
        have H := H1
        clear H1
        replace H := Option.bind_eq_some_iff.mp H
        obtain ⟨⟨t508, t509, t510⟩, A500, H⟩ := H
        replace H : ((impl_ApplyOp.f kj34 t508 t509 t510).bind fun bt511 => ((spec_ApplyOp.f kj34 t508 t509 t510).bind fun bt513 => (if (bt511.2 != bt513.2) = true then (laws_FnValuesOfNodes.j2 kj34 t478 t479 t480 t483 t488 t491 true) else (laws_FnValuesOfNodes.j2 kj34 t478 t479 t480 t483 t488 t491 (bt511.1 != bt513.1))))) = some r := H
        have A50 := zK A500
        clear A500
        replace H := Option.bind_eq_some_iff.mp H
        obtain ⟨⟨t511, t512⟩, A510, H⟩ := H
        replace H : ((spec_ApplyOp.f kj34 t508 t509 t510).bind fun bt513 => (if (t512 != bt513.2) = true then (laws_FnValuesOfNodes.j2 kj34 t478 t479 t480 t483 t488 t491 true) else (laws_FnValuesOfNodes.j2 kj34 t478 t479 t480 t483 t488 t491 (t511 != bt513.1)))) = some r := H
        have A51 := zK A510
        clear A510
        replace H := Option.bind_eq_some_iff.mp H
        obtain ⟨⟨t513, t514⟩, A520, H⟩ := H
        replace H : (if (t512 != t514) = true then (laws_FnValuesOfNodes.j2 kj34 t478 t479 t480 t483 t488 t491 true) else (laws_FnValuesOfNodes.j2 kj34 t478 t479 t480 t483 t488 t491 (t511 != t513))) = some r := H
        have A52 := zK A520
        clear A520
        have HC53 := zK H
        clear H
        go_upto_region 17 with (first | ((with_reducible refine gate_callee (f := 27) rfl ?_); refine goesL_ (some 118) rfl rfl Try.func27 (by kernel_rfl) rfl #[.slice A1 l1.length c1] rfl (by (try simp only [z6, z7, z8]); first | done | rfl | (simp only [z4, z5]; rfl)) ?_; (with_reducible refine (spec_DrawApplyOp.calls kj34 _ _ l1 t508 t509 t510 _ ?side1 ?side2 A50.out).mono ?_); (case side1 => repeat (first | exact (Kd.C_below HR1.out HB.out) | (with_reducible refine Kd.C_alloc ?_ _) | (with_reducible refine Kd.C_drewN ?_ _) | (with_reducible refine Kd.C_drew ?_))); (case side2 => exact HC1.out); rintro e w54 ⟨rfl, hb⟩; refine ⟨_, rfl, ?_⟩; have n0_ := zK (Kd.R_below (by (with_reducible repeat (first | apply Kd.R_alloc | apply Kd.R_drewN | apply Kd.R_drew)); exact HO_5.out) hb); have n1_ := zK (Kd.R_below (by (with_reducible repeat (first | apply Kd.R_alloc | apply Kd.R_drewN | apply Kd.R_drew)); exact HO_8.out) hb); have n2_ := zK (zL (by repeat (first | (with_reducible first | exact HB.out | apply zA | apply zB | apply zC) | exact HB.out)) hb); clear HO_5; clear HO_8; clear HB; have HO_5 := n0_; have HO_8 := n1_; have HB := n2_; clear n0_ n1_ n2_; (try clear hb); (try clear hb2); (try clear hk); (try clear hi)) | ((with_reducible refine gate_callee (f := 28) rfl ?_); refine goesL_ (some 126) rfl rfl Try.func28 (by kernel_rfl) rfl #[.string t508, .int .i64 t509, .int .i64 t510] rfl (by (try simp only [z6, z7, z8]); first | done | rfl | (simp only [z4, z5]; rfl)) ?_; (with_reducible refine (impl_ApplyOp.calls kj34 t508 t509 t510 t511 t512 _ A51.out).mono ?_); rintro e w55 ⟨rfl, hb⟩; refine ⟨_, rfl, ?_⟩; have n0_ := zK (Kd.R_below (by (with_reducible repeat (first | apply Kd.R_alloc | apply Kd.R_drewN | apply Kd.R_drew)); exact HO_5.out) hb); have n1_ := zK (Kd.R_below (by (with_reducible repeat (first | apply Kd.R_alloc | apply Kd.R_drewN | apply Kd.R_drew)); exact HO_8.out) hb); have n2_ := zK (zL (by repeat (first | (with_reducible first | exact HB.out | apply zA | apply zB | apply zC) | exact HB.out)) hb); clear HO_5; clear HO_8; clear HB; have HO_5 := n0_; have HO_8 := n1_; have HB := n2_; clear n0_ n1_ n2_; (try clear hb); (try clear hb2); (try clear hk); (try clear hi)) | ((with_reducible refine gate_callee (f := 29) rfl ?_); refine goesL_ (some 133) rfl rfl Try.func29 (by kernel_rfl) rfl #[.string t508, .int .i64 t509, .int .i64 t510] rfl (by (try simp only [z6, z7, z8]); first | done | rfl | (simp only [z4, z5]; rfl)) ?_; (with_reducible refine (spec_ApplyOp.calls kj34 t508 t509 t510 t513 t514 _ A52.out).mono ?_); rintro e w56 ⟨rfl, hb⟩; refine ⟨_, rfl, ?_⟩; have n0_ := zK (Kd.R_below (by (with_reducible repeat (first | apply Kd.R_alloc | apply Kd.R_drewN | apply Kd.R_drew)); exact HO_5.out) hb); have n1_ := zK (Kd.R_below (by (with_reducible repeat (first | apply Kd.R_alloc | apply Kd.R_drewN | apply Kd.R_drew)); exact HO_8.out) hb); have n2_ := zK (zL (by repeat (first | (with_reducible first | exact HB.out | apply zA | apply zB | apply zC) | exact HB.out)) hb); clear HO_5; clear HO_8; clear HB; have HO_5 := n0_; have HO_8 := n1_; have HB := n2_; clear n0_ n1_ n2_; (try clear hb); (try clear hb2); (try clear hk); (try clear hi)))
        (try simp only [Act.put, z1, z2, z3])
        go_cut [143] (fun v143 wc => ∃ (kq : Nat) (x143_52 : Bool), v143 = .bool x143_52 ∧ Aside0 (laws_FnValuesOfNodes.j2 kq t478 t479 t480 t483 t488 t491 x143_52 = some r) ∧ Aside0 (kq ≤ kj34) ∧ Aside0 (Kd.R k47 47 wc w.heap.size (fun _ => True) (.slice Ao11 t478.length co11) t478) ∧ Aside0 (Kd.R (Kd.int .i64) 3 wc w.heap.size (fun _ => True) v485 t483) ∧ Aside0 (Below w.heap.size w wc))
        case first =>
         have H := HC53.out
         clear HC53
         by_cases c57 : (t512 != t514) = true
         ·as_aux_lemma =>
          rw [if_pos c57] at H
          have c57b0 : (t512 != t514) = true := c57
          (try (have c57b1 : decide (t512 = t514) = false := by simpa using c57))
          (try (have c57b2 : (t512 == t514) = false := by simpa using c57))
          (try (have c57b3 : ¬ (t512 = t514) := by simpa using c57))
          clear c57
          (first | rw [c57b0] | (simp only [i64_w, i32_w]; rw [c57b0]) | skip)
          have H' := zK H
          clear H
          go_wp2
          go_meet
          case rel => exact ⟨_, (true), (by first | rfl | (simp; done) | (simp [*]; done)), H', ⟨by have := HJ8.out; have := HJ34.out; first | omega | exact Nat.le_refl _⟩, ⟨by (with_reducible repeat (first | apply Kd.R_alloc | apply Kd.R_drewN | apply Kd.R_drew)); exact HO_5.out⟩, ⟨by (with_reducible repeat (first | apply Kd.R_alloc | apply Kd.R_drewN | apply Kd.R_drew)); exact HO_8.out⟩, ⟨by repeat (first | (with_reducible first | exact HB.out | apply zA | apply zB | apply zC) | exact HB.out)⟩⟩
         ·as_aux_lemma =>
          rw [if_neg c57] at H
          have c57b0 : (t512 != t514) = false := by simpa using c57
          (try (have c57b1 : decide (t512 = t514) = true := by simpa using c57))
          (try (have c57b2 : (t512 == t514) = true := by simpa using c57))
          clear c57
          (first | rw [c57b0] | (simp only [i64_w, i32_w]; rw [c57b0]) | skip)
          have H' := zK H
          clear H
          go_wp2
          go_meet
          case rel => exact ⟨_, ((t511 != t513)), (by first | rfl | (simp; done) | (simp [*]; done)), H', ⟨by have := HJ8.out; have := HJ34.out; first | omega | exact Nat.le_refl _⟩, ⟨by (with_reducible repeat (first | apply Kd.R_alloc | apply Kd.R_drewN | apply Kd.R_drew)); exact HO_5.out⟩, ⟨by (with_reducible repeat (first | apply Kd.R_alloc | apply Kd.R_drewN | apply Kd.R_drew)); exact HO_8.out⟩, ⟨by repeat (first | (with_reducible first | exact HB.out | apply zA | apply zB | apply zC) | exact HB.out)⟩⟩
        case rest =>
         clear HC53
         try clear c1
         try clear c2
         try clear p2
         try clear c3
         try clear c4
         try clear p4
         try clear q4
         try clear hx4
         try clear c5
         try clear p6
         try clear c8
         try clear c15
         try clear c15b0
         try clear c15b1
         try clear c15b2
         try clear c17
         try clear c18
         try clear c18b0
         try clear c18b1
         try clear c18b2
         try clear c19
         try clear c21
         try clear c22
         try clear c23
         try clear c23b0
         try clear c24
         try clear c24b0
         try clear c25
         try clear c26
         try clear c27
         try clear c28
         try clear c29
         try clear c31
         try clear c40
         try clear c40b0
         try clear c40b1
         try clear c40b2
         try clear c42
         try clear c49
         try clear p49
         try clear q49
         try clear hx49
         try clear c57
         try clear c57b0
         try clear c57b1
         try clear c57b2
         try clear hx494_0
         try clear p2
         try clear p4
         try clear p494
         try clear p6
         try clear q4
         try clear q494
         obtain ⟨kq, x143_52, rfl, HA, HJ52, HO_5, HO_8, HB⟩ := hcut
         cases kq with
         | zero => exact absurd HA.out (by simp [laws_FnValuesOfNodes.j2])
         | succ kj52 =>
          have H := HA.out
          clear HA
          simp only [laws_FnValuesOfNodes.j2] at H
          by_cases c58 : x143_52 = true
          ·subst c58
           have H1 : (some false) = some r := by rw [if_pos rfl] at H; exact H
           clear H
           have H := H1
           clear H1
           exact absurd ((Option.some.inj H).trans hr) (by decide)
          ·replace c58 := Bool.eq_false_iff.mpr c58
           subst c58
           have H1 : (if t488 = true then (laws_FnValuesOfNodes.l0 kj52 t478 t479 t480 t483 t491 t478 (t478.length : Int) 0) else (some true)) = some r := by rw [if_neg (show ¬ (false = true) by decide)] at H; exact H
           clear H
           have H := H1
           clear H1
           by_cases c59 : t488 = true
           ·subst c59
            have H1 : (laws_FnValuesOfNodes.l0 kj52 t478 t479 t480 t483 t491 t478 (t478.length : Int) 0) = some r := by rw [if_pos rfl] at H; exact H
            clear H
            have H := H1
            clear H1
            have H' := zK H
            clear H
            go_wp2
            go_loopg [148] kj52 (fun kq v148 w' => ∃ (x148_4 : Int), v148 = .int .i64 x148_4 ∧ Aside0 (laws_FnValuesOfNodes.l0 kq t478 t479 t480 t483 t491 t478 (t478.length : Int) x148_4 = some r) ∧ Aside0 (kq ≤ kj52) ∧ Aside0 (Kd.R k47 47 w' w.heap.size (fun _ => True) (.slice Ao11 t478.length co11) t478) ∧ Aside0 (Kd.R (Kd.int .i64) 3 w' w.heap.size (fun _ => True) v485 t483) ∧ Aside0 (Kd.R k47 47 w' w.heap.size (fun _ => True) (.slice Ao11 t478.length co11) t478) ∧ Aside0 (Below w.heap.size w w'))
            case atStart => exact ⟨(0), (by first | rfl | (simp; done) | (simp [*]; done)), H', ⟨Nat.le_refl _⟩, ⟨by (with_reducible repeat (first | apply Kd.R_alloc | apply Kd.R_drewN | apply Kd.R_drew)); exact HO_5.out⟩, ⟨by (with_reducible repeat (first | apply Kd.R_alloc | apply Kd.R_drewN | apply Kd.R_drew)); exact HO_8.out⟩, ⟨by (with_reducible repeat (first | apply Kd.R_alloc | apply Kd.R_drewN | apply Kd.R_drew)); exact HO_5.out⟩, ⟨by repeat (first | (with_reducible first | exact HB.out | apply zA | apply zB | apply zC) | exact HB.out)⟩⟩
            case round =>
             clear H'
             try clear c1
             try clear c2
             try clear p2
             try clear c3
             try clear c4
             try clear p4
             try clear q4
             try clear hx4
             try clear c5
             try clear p6
             try clear c8
             try clear c15
             try clear c15b0
             try clear c15b1
             try clear c15b2
             try clear c17
             try clear c18
             try clear c18b0
             try clear c18b1
             try clear c18b2
             try clear c19
             try clear c21
             try clear c22
             try clear c23
             try clear c23b0
             try clear c24
             try clear c24b0
             try clear c25
             try clear c26
             try clear c27
             try clear c28
             try clear c29
             try clear c31
             try clear c40
             try clear c40b0
             try clear c40b1
             try clear c40b2
             try clear c42
             try clear c49
             try clear p49
             try clear q49
             try clear hx49
             try clear c57
             try clear c57b0
             try clear c57b1
             try clear c57b2
             try clear c58
             try clear c59
             try clear hx494_0
             try clear p2
             try clear p4
             try clear p49
             try clear p494
             try clear p6
             try clear q4
             try clear q49
             try clear q494
             obtain ⟨x148_4, rfl, HA, HK4, HO_5, HO_8, HO_146, HB⟩ := hrel
             cases gk with
             | zero => exact absurd HA.out (by simp [laws_FnValuesOfNodes.l0])
             | succ k4 =>
              have H := HA.out
              clear HA
              simp only [laws_FnValuesOfNodes.l0] at H
              by_cases c60 : x148_4 < (t478.length : Int)
              ·as_aux_lemma =>
               rw [if_pos c60] at H
               have c60b0 : decide (x148_4 < (t478.length : Int)) = true := decide_eq_true c60
               clear c60
               by_cases c61 : 0 ≤ x148_4
               ·as_aux_lemma =>
                rw [if_pos c61] at H
                have c61b0 : decide (0 ≤ x148_4) = true := decide_eq_true c61
                clear c61
                by_cases c62 : x148_4 < (t478.length : Int)
                ·as_aux_lemma =>
                 rw [if_pos c62] at H
                 have c62b0 : decide (x148_4 < (t478.length : Int)) = true := decide_eq_true c62
                 clear c62
                 by_cases c63 : ((rd_T47 t478 x148_4).f0).toList = ([105, 110] : List UInt8)
                 ·as_aux_lemma =>
                  rw [if_pos c63] at H
                  have c63b0 : (((rd_T47 t478 x148_4).f0).toList == ([105, 110] : List UInt8)) = true := beq_iff_eq.mpr c63
                  have c63b1 : (((rd_T47 t478 x148_4).f0).toList != ([105, 110] : List UInt8)) = false := bne_eq_false_iff_eq.mpr c63
                  clear c63
                  by_cases c64 : ((rd_T47 t478 x148_4).f3) = 0
                  ·as_aux_lemma =>
                   rw [if_pos c64] at H
                   have c64b0 : (((rd_T47 t478 x148_4).f3) == 0) = true := beq_iff_eq.mpr c64
                   have c64b1 : (((rd_T47 t478 x148_4).f3) != 0) = false := bne_eq_false_iff_eq.mpr c64
                   clear c64
                   by_cases c65 : x148_4 < (t483.length : Int)
                   ·as_aux_lemma =>
                    rw [if_pos c65] at H
                    have c65b0 : decide (x148_4 < (t483.length : Int)) = true := decide_eq_true c65
                    clear c65
                    by_cases c66 : (rd t483 x148_4) = t479
                    ·as_aux_lemma =>
                     rw [if_pos c66] at H
                     have c66b0 : ((rd t483 x148_4) == t479) = true := beq_iff_eq.mpr c66
                     have c66b1 : ((rd t483 x148_4) != t479) = false := bne_eq_false_iff_eq.mpr c66
                     clear c66
                     by_cases c67 : ((rd_T47 t478 x148_4).f3) = 1
                     ·as_aux_lemma =>
                      rw [if_pos c67] at H
                      have c67b0 : (((rd_T47 t478 x148_4).f3) == 1) = true := beq_iff_eq.mpr c67
                      have c67b1 : (((rd_T47 t478 x148_4).f3) != 1) = false := bne_eq_false_iff_eq.mpr c67
                      clear c67
                      by_cases c68 : (rd t483 x148_4) = t480
                      ·as_aux_lemma =>
                       rw [if_pos c68] at H
                       have c68b0 : ((rd t483 x148_4) == t480) = true := beq_iff_eq.mpr c68
                       have c68b1 : ((rd t483 x148_4) != t480) = false := bne_eq_false_iff_eq.mpr c68
                       clear c68
                       have H' := zK H
                       clear H
                       have p519 : 0 ≤ (x148_4 : Int) := zo
                       have q519 : x148_4 < (t478.length : Int) := zo
                       obtain ⟨ad519, e519, hx519_0, hx519_1, hx519_2, hx519_3⟩ := at_T47 (Kd.R_reads' HO_146.out).2.2 x148_4 p519 q519
                       cases e519
                       replace p519 := eq_true p519
                       replace q519 := eq_true q519
                       go_wp2_with (first | ((with_reducible refine gate_dst (N := 27) rfl ?_); (try (refine gate_guard (by rfl) ?_; dsimp only)); refine box_event ?hg (N := 27) ?hd (cs := #[.string (⟨#[]⟩ : ByteArray), .int .i64 0, .int .i64 0, .int .i64 0]) (t := 47) ?hr ?_; (case hd => rfl); (case hg => rfl); (case hr => first | (go_simp; done) | (go_simp; rfl)); intro gb520 hg w69 hbox hb; have n0_ := zK (Kd.R_below (Kd.R_elderB (by (with_reducible repeat (first | apply Kd.R_alloc | apply Kd.R_drewN | apply Kd.R_drew)); exact HO_5.out) gb520 (Nat.le_of_eq hg.symm)) hb); have n1_ := zK (Kd.R_below (by (with_reducible repeat (first | apply Kd.R_alloc | apply Kd.R_drewN | apply Kd.R_drew)); exact HO_8.out) hb); have n2_ := zK (Kd.R_below (Kd.R_elderB (by (with_reducible repeat (first | apply Kd.R_alloc | apply Kd.R_drewN | apply Kd.R_drew)); exact HO_146.out) gb520 (Nat.le_of_eq hg.symm)) hb); have n3_ := zK (zL (by repeat (first | (with_reducible first | exact HB.out | apply zA | apply zB | apply zC) | exact HB.out)) hb); have n4_ := zK (hbox); have n5_ := zK ((by rw [hg]; exact (zN (by repeat (first | (with_reducible first | exact HB.out | apply zA | apply zB | apply zC) | exact HB.out))) : w.heap.size ≤ gb520)); have n6_ := zK ((by rw [hg]; exact (zN (by repeat (first | (with_reducible first | exact HB.out | apply zA | apply zB | apply zC) | exact HB.out))) : w.heap.size ≤ gb520)); clear HO_5; clear HO_8; clear HO_146; clear HB; have HO_5 := n0_; have HO_8 := n1_; have HO_146 := n2_; have HB := n3_; have BK520 := n4_; have GW520 := n5_; have GE520 := n6_; clear n0_ n1_ n2_ n3_ n4_ n5_ n6_; clear hb hbox hg; have hcz70_0 : w69.cell? ⟨gb520, 0, none⟩ = some (.string (⟨#[]⟩ : ByteArray)) := (zI BK520.out 0).trans rfl; have hcz70_1 : w69.cell? ⟨gb520, 1, none⟩ = some (.int .i64 0) := (zI BK520.out 1).trans rfl; have hcz70_2 : w69.cell? ⟨gb520, 2, none⟩ = some (.int .i64 0) := (zI BK520.out 2).trans rfl; have hcz70_3 : w69.cell? ⟨gb520, 3, none⟩ = some (.int .i64 0) := (zI BK520.out 3).trans rfl; have hfz70_0 := zH BK520.out 0; have hfz70_1 := zH BK520.out 1; have hfz70_2 := zH BK520.out 2; have hfz70_3 := zH BK520.out 3; obtain ⟨Ao71, co71, eo71⟩ := Kd.R_slice HO_8.out; subst eo71; have p521 : 0 ≤ (x148_4 : Int) := zo; have q521 : x148_4 < (t483.length : Int) := zo; obtain ⟨ad521, e521, hx521_0⟩ := Kd.at_int (Kd.R_reads' HO_8.out).2.2 x148_4 p521 q521; cases e521; have hn521_0 : ad521.block ≠ gb520 := Kd.own_blk (by first | exact Kd.R_ne HO_8.out BK520.out (by decide) | (intro e_; exact (HO_8.out.1 _ e_.symm).2 rfl)); have hn521_1 : ad521.block ≠ gb520 := Kd.own_blk (by first | exact Kd.R_ne HO_8.out BK520.out (by decide) | (intro e_; exact (HO_8.out.1 _ e_.symm).2 rfl)); have hn521_2 : ad521.block ≠ gb520 := Kd.own_blk (by first | exact Kd.R_ne HO_8.out BK520.out (by decide) | (intro e_; exact (HO_8.out.1 _ e_.symm).2 rfl)); have hn521_3 : ad521.block ≠ gb520 := Kd.own_blk (by first | exact Kd.R_ne HO_8.out BK520.out (by decide) | (intro e_; exact (HO_8.out.1 _ e_.symm).2 rfl)); replace hx521_0 := (cell_far (p := ⟨gb520, 0, none⟩) (by first | (rw [add_block]; exact hn521_0) | (show (Addr.add _ _).block ≠ _; rw [add_block]; exact hn521_0) | exact hn521_0) (.string ((rd_T47 t478 x148_4).f0))).trans hx521_0; replace hx521_0 := (cell_far (p := ⟨gb520, 1, none⟩) (by first | (rw [add_block]; exact hn521_1) | (show (Addr.add _ _).block ≠ _; rw [add_block]; exact hn521_1) | exact hn521_1) (.int .i64 ((rd_T47 t478 x148_4).f1))).trans hx521_0; replace hx521_0 := (cell_far (p := ⟨gb520, 2, none⟩) (by first | (rw [add_block]; exact hn521_2) | (show (Addr.add _ _).block ≠ _; rw [add_block]; exact hn521_2) | exact hn521_2) (.int .i64 ((rd_T47 t478 x148_4).f2))).trans hx521_0; replace hx521_0 := (cell_far (p := ⟨gb520, 3, none⟩) (by first | (rw [add_block]; exact hn521_3) | (show (Addr.add _ _).block ≠ _; rw [add_block]; exact hn521_3) | exact hn521_3) (.int .i64 ((rd_T47 t478 x148_4).f3))).trans hx521_0; clear hn521_0; clear hn521_1; clear hn521_2; clear hn521_3; replace p521 := eq_true p521; replace q521 := eq_true q521; have p522 : 0 ≤ (x148_4 : Int) := zo; have q522 : x148_4 < (t483.length : Int) := zo; obtain ⟨ad522, e522, hx522_0⟩ := Kd.at_int (Kd.R_reads' HO_8.out).2.2 x148_4 p522 q522; obtain rfl : ad521 = ad522 := (by injection e522); have hn522_0 : ad521.block ≠ gb520 := Kd.own_blk (by first | exact Kd.R_ne HO_8.out BK520.out (by decide) | (intro e_; exact (HO_8.out.1 _ e_.symm).2 rfl)); have hn522_1 : ad521.block ≠ gb520 := Kd.own_blk (by first | exact Kd.R_ne HO_8.out BK520.out (by decide) | (intro e_; exact (HO_8.out.1 _ e_.symm).2 rfl)); have hn522_2 : ad521.block ≠ gb520 := Kd.own_blk (by first | exact Kd.R_ne HO_8.out BK520.out (by decide) | (intro e_; exact (HO_8.out.1 _ e_.symm).2 rfl)); have hn522_3 : ad521.block ≠ gb520 := Kd.own_blk (by first | exact Kd.R_ne HO_8.out BK520.out (by decide) | (intro e_; exact (HO_8.out.1 _ e_.symm).2 rfl)); replace hx522_0 := (cell_far (p := ⟨gb520, 0, none⟩) (by first | (rw [add_block]; exact hn522_0) | (show (Addr.add _ _).block ≠ _; rw [add_block]; exact hn522_0) | exact hn522_0) (.string ((rd_T47 t478 x148_4).f0))).trans hx522_0; replace hx522_0 := (cell_far (p := ⟨gb520, 1, none⟩) (by first | (rw [add_block]; exact hn522_1) | (show (Addr.add _ _).block ≠ _; rw [add_block]; exact hn522_1) | exact hn522_1) (.int .i64 ((rd_T47 t478 x148_4).f1))).trans hx522_0; replace hx522_0 := (cell_far (p := ⟨gb520, 2, none⟩) (by first | (rw [add_block]; exact hn522_2) | (show (Addr.add _ _).block ≠ _; rw [add_block]; exact hn522_2) | exact hn522_2) (.int .i64 ((rd_T47 t478 x148_4).f2))).trans hx522_0; replace hx522_0 := (cell_far (p := ⟨gb520, 3, none⟩) (by first | (rw [add_block]; exact hn522_3) | (show (Addr.add _ _).block ≠ _; rw [add_block]; exact hn522_3) | exact hn522_3) (.int .i64 ((rd_T47 t478 x148_4).f3))).trans hx522_0; clear hn522_0; clear hn522_1; clear hn522_2; clear hn522_3; replace p522 := eq_true p522; replace q522 := eq_true q522))
                       go_roundg k4
                       case measure => have := HJ8.out; have := HJ34.out; have := HJ52.out; have := HK4.out; omega
                       case rel => exact ⟨(wrap64 (x148_4 + 1)), (by first | rfl | (simp; done) | (simp [*]; done)), H', ⟨by have := HJ8.out; have := HJ34.out; have := HJ52.out; have := HK4.out; omega⟩, ⟨by (with_reducible repeat (first | apply Kd.R_alloc | apply Kd.R_drewN | apply Kd.R_drew)); exact Kd.R_mono (Kd.R_far (p := ⟨gb520, 3, none⟩) (Kd.R_far (p := ⟨gb520, 2, none⟩) (Kd.R_far (p := ⟨gb520, 1, none⟩) (Kd.R_far (p := ⟨gb520, 0, none⟩) (Kd.R_mono HO_5.out (fun k_ hk => (⟨hk, hk.2⟩ : _ ∧ k_ ≠ gb520))) (fun _ hk => hk.2) (.string ((rd_T47 t478 x148_4).f0))) (fun _ hk => hk.2) (.int .i64 ((rd_T47 t478 x148_4).f1))) (fun _ hk => hk.2) (.int .i64 ((rd_T47 t478 x148_4).f2))) (fun _ hk => hk.2) (.int .i64 ((rd_T47 t478 x148_4).f3))) (fun _ hk => trivial)⟩, ⟨by (with_reducible repeat (first | apply Kd.R_alloc | apply Kd.R_drewN | apply Kd.R_drew)); exact Kd.R_mono (Kd.R_far (p := ⟨gb520, 3, none⟩) (Kd.R_far (p := ⟨gb520, 2, none⟩) (Kd.R_far (p := ⟨gb520, 1, none⟩) (Kd.R_far (p := ⟨gb520, 0, none⟩) (Kd.R_types HO_8.out BK520.out (by decide)) (fun _ hk => hk.2) (.string ((rd_T47 t478 x148_4).f0))) (fun _ hk => hk.2) (.int .i64 ((rd_T47 t478 x148_4).f1))) (fun _ hk => hk.2) (.int .i64 ((rd_T47 t478 x148_4).f2))) (fun _ hk => hk.2) (.int .i64 ((rd_T47 t478 x148_4).f3))) (fun _ hk => trivial)⟩, ⟨by (with_reducible repeat (first | apply Kd.R_alloc | apply Kd.R_drewN | apply Kd.R_drew)); exact Kd.R_mono (Kd.R_far (p := ⟨gb520, 3, none⟩) (Kd.R_far (p := ⟨gb520, 2, none⟩) (Kd.R_far (p := ⟨gb520, 1, none⟩) (Kd.R_far (p := ⟨gb520, 0, none⟩) (Kd.R_mono HO_146.out (fun k_ hk => (⟨hk, hk.2⟩ : _ ∧ k_ ≠ gb520))) (fun _ hk => hk.2) (.string ((rd_T47 t478 x148_4).f0))) (fun _ hk => hk.2) (.int .i64 ((rd_T47 t478 x148_4).f1))) (fun _ hk => hk.2) (.int .i64 ((rd_T47 t478 x148_4).f2))) (fun _ hk => hk.2) (.int .i64 ((rd_T47 t478 x148_4).f3))) (fun _ hk => trivial)⟩, ⟨by repeat (first | (with_reducible first | exact HB.out | apply zA | apply zB | apply zC | refine zD ?_ GE520.out) | exact HB.out)⟩⟩
                      ·as_aux_lemma =>
                       rw [if_neg c68] at H
                       have c68b0 : ((rd t483 x148_4) == t480) = false := beq_eq_false_iff_ne.mpr c68
                       have c68b1 : ((rd t483 x148_4) != t480) = true := bne_iff_ne.mpr c68
                       exact absurd ((Option.some.inj H).trans hr) (by decide)
                     ·as_aux_lemma =>
                      rw [if_neg c67] at H
                      have c67b0 : (((rd_T47 t478 x148_4).f3) == 1) = false := beq_eq_false_iff_ne.mpr c67
                      have c67b1 : (((rd_T47 t478 x148_4).f3) != 1) = true := bne_iff_ne.mpr c67
                      have H' := zK H
                      clear H
                      have p519 : 0 ≤ (x148_4 : Int) := zo
                      have q519 : x148_4 < (t478.length : Int) := zo
                      obtain ⟨ad519, e519, hx519_0, hx519_1, hx519_2, hx519_3⟩ := at_T47 (Kd.R_reads' HO_146.out).2.2 x148_4 p519 q519
                      cases e519
                      replace p519 := eq_true p519
                      replace q519 := eq_true q519
                      go_wp2_with (first | ((with_reducible refine gate_dst (N := 27) rfl ?_); (try (refine gate_guard (by rfl) ?_; dsimp only)); refine box_event ?hg (N := 27) ?hd (cs := #[.string (⟨#[]⟩ : ByteArray), .int .i64 0, .int .i64 0, .int .i64 0]) (t := 47) ?hr ?_; (case hd => rfl); (case hg => rfl); (case hr => first | (go_simp; done) | (go_simp; rfl)); intro gb520 hg w75 hbox hb; have n0_ := zK (Kd.R_below (Kd.R_elderB (by (with_reducible repeat (first | apply Kd.R_alloc | apply Kd.R_drewN | apply Kd.R_drew)); exact HO_5.out) gb520 (Nat.le_of_eq hg.symm)) hb); have n1_ := zK (Kd.R_below (by (with_reducible repeat (first | apply Kd.R_alloc | apply Kd.R_drewN | apply Kd.R_drew)); exact HO_8.out) hb); have n2_ := zK (Kd.R_below (Kd.R_elderB (by (with_reducible repeat (first | apply Kd.R_alloc | apply Kd.R_drewN | apply Kd.R_drew)); exact HO_146.out) gb520 (Nat.le_of_eq hg.symm)) hb); have n3_ := zK (zL (by repeat (first | (with_reducible first | exact HB.out | apply zA | apply zB | apply zC) | exact HB.out)) hb); have n4_ := zK (hbox); have n5_ := zK ((by rw [hg]; exact (zN (by repeat (first | (with_reducible first | exact HB.out | apply zA | apply zB | apply zC) | exact HB.out))) : w.heap.size ≤ gb520)); have n6_ := zK ((by rw [hg]; exact (zN (by repeat (first | (with_reducible first | exact HB.out | apply zA | apply zB | apply zC) | exact HB.out))) : w.heap.size ≤ gb520)); clear HO_5; clear HO_8; clear HO_146; clear HB; have HO_5 := n0_; have HO_8 := n1_; have HO_146 := n2_; have HB := n3_; have BK520 := n4_; have GW520 := n5_; have GE520 := n6_; clear n0_ n1_ n2_ n3_ n4_ n5_ n6_; clear hb hbox hg; have hcz76_0 : w75.cell? ⟨gb520, 0, none⟩ = some (.string (⟨#[]⟩ : ByteArray)) := (zI BK520.out 0).trans rfl; have hcz76_1 : w75.cell? ⟨gb520, 1, none⟩ = some (.int .i64 0) := (zI BK520.out 1).trans rfl; have hcz76_2 : w75.cell? ⟨gb520, 2, none⟩ = some (.int .i64 0) := (zI BK520.out 2).trans rfl; have hcz76_3 : w75.cell? ⟨gb520, 3, none⟩ = some (.int .i64 0) := (zI BK520.out 3).trans rfl; have hfz76_0 := zH BK520.out 0; have hfz76_1 := zH BK520.out 1; have hfz76_2 := zH BK520.out 2; have hfz76_3 := zH BK520.out 3; obtain ⟨Ao77, co77, eo77⟩ := Kd.R_slice HO_8.out; subst eo77; have p521 : 0 ≤ (x148_4 : Int) := zo; have q521 : x148_4 < (t483.length : Int) := zo; obtain ⟨ad521, e521, hx521_0⟩ := Kd.at_int (Kd.R_reads' HO_8.out).2.2 x148_4 p521 q521; cases e521; have hn521_0 : ad521.block ≠ gb520 := Kd.own_blk (by first | exact Kd.R_ne HO_8.out BK520.out (by decide) | (intro e_; exact (HO_8.out.1 _ e_.symm).2 rfl)); have hn521_1 : ad521.block ≠ gb520 := Kd.own_blk (by first | exact Kd.R_ne HO_8.out BK520.out (by decide) | (intro e_; exact (HO_8.out.1 _ e_.symm).2 rfl)); have hn521_2 : ad521.block ≠ gb520 := Kd.own_blk (by first | exact Kd.R_ne HO_8.out BK520.out (by decide) | (intro e_; exact (HO_8.out.1 _ e_.symm).2 rfl)); have hn521_3 : ad521.block ≠ gb520 := Kd.own_blk (by first | exact Kd.R_ne HO_8.out BK520.out (by decide) | (intro e_; exact (HO_8.out.1 _ e_.symm).2 rfl)); replace hx521_0 := (cell_far (p := ⟨gb520, 0, none⟩) (by first | (rw [add_block]; exact hn521_0) | (show (Addr.add _ _).block ≠ _; rw [add_block]; exact hn521_0) | exact hn521_0) (.string ((rd_T47 t478 x148_4).f0))).trans hx521_0; replace hx521_0 := (cell_far (p := ⟨gb520, 1, none⟩) (by first | (rw [add_block]; exact hn521_1) | (show (Addr.add _ _).block ≠ _; rw [add_block]; exact hn521_1) | exact hn521_1) (.int .i64 ((rd_T47 t478 x148_4).f1))).trans hx521_0; replace hx521_0 := (cell_far (p := ⟨gb520, 2, none⟩) (by first | (rw [add_block]; exact hn521_2) | (show (Addr.add _ _).block ≠ _; rw [add_block]; exact hn521_2) | exact hn521_2) (.int .i64 ((rd_T47 t478 x148_4).f2))).trans hx521_0; replace hx521_0 := (cell_far (p := ⟨gb520, 3, none⟩) (by first | (rw [add_block]; exact hn521_3) | (show (Addr.add _ _).block ≠ _; rw [add_block]; exact hn521_3) | exact hn521_3) (.int .i64 ((rd_T47 t478 x148_4).f3))).trans hx521_0; clear hn521_0; clear hn521_1; clear hn521_2; clear hn521_3; replace p521 := eq_true p521; replace q521 := eq_true q521))
                      go_roundg k4
                      case measure => have := HJ8.out; have := HJ34.out; have := HJ52.out; have := HK4.out; omega
                      case rel => exact ⟨(wrap64 (x148_4 + 1)), (by first | rfl | (simp; done) | (simp [*]; done)), H', ⟨by have := HJ8.out; have := HJ34.out; have := HJ52.out; have := HK4.out; omega⟩, ⟨by (with_reducible repeat (first | apply Kd.R_alloc | apply Kd.R_drewN | apply Kd.R_drew)); exact Kd.R_mono (Kd.R_far (p := ⟨gb520, 3, none⟩) (Kd.R_far (p := ⟨gb520, 2, none⟩) (Kd.R_far (p := ⟨gb520, 1, none⟩) (Kd.R_far (p := ⟨gb520, 0, none⟩) (Kd.R_mono HO_5.out (fun k_ hk => (⟨hk, hk.2⟩ : _ ∧ k_ ≠ gb520))) (fun _ hk => hk.2) (.string ((rd_T47 t478 x148_4).f0))) (fun _ hk => hk.2) (.int .i64 ((rd_T47 t478 x148_4).f1))) (fun _ hk => hk.2) (.int .i64 ((rd_T47 t478 x148_4).f2))) (fun _ hk => hk.2) (.int .i64 ((rd_T47 t478 x148_4).f3))) (fun _ hk => trivial)⟩, ⟨by (with_reducible repeat (first | apply Kd.R_alloc | apply Kd.R_drewN | apply Kd.R_drew)); exact Kd.R_mono (Kd.R_far (p := ⟨gb520, 3, none⟩) (Kd.R_far (p := ⟨gb520, 2, none⟩) (Kd.R_far (p := ⟨gb520, 1, none⟩) (Kd.R_far (p := ⟨gb520, 0, none⟩) (Kd.R_types HO_8.out BK520.out (by decide)) (fun _ hk => hk.2) (.string ((rd_T47 t478 x148_4).f0))) (fun _ hk => hk.2) (.int .i64 ((rd_T47 t478 x148_4).f1))) (fun _ hk => hk.2) (.int .i64 ((rd_T47 t478 x148_4).f2))) (fun _ hk => hk.2) (.int .i64 ((rd_T47 t478 x148_4).f3))) (fun _ hk => trivial)⟩, ⟨by (with_reducible repeat (first | apply Kd.R_alloc | apply Kd.R_drewN | apply Kd.R_drew)); exact Kd.R_mono (Kd.R_far (p := ⟨gb520, 3, none⟩) (Kd.R_far (p := ⟨gb520, 2, none⟩) (Kd.R_far (p := ⟨gb520, 1, none⟩) (Kd.R_far (p := ⟨gb520, 0, none⟩) (Kd.R_mono HO_146.out (fun k_ hk => (⟨hk, hk.2⟩ : _ ∧ k_ ≠ gb520))) (fun _ hk => hk.2) (.string ((rd_T47 t478 x148_4).f0))) (fun _ hk => hk.2) (.int .i64 ((rd_T47 t478 x148_4).f1))) (fun _ hk => hk.2) (.int .i64 ((rd_T47 t478 x148_4).f2))) (fun _ hk => hk.2) (.int .i64 ((rd_T47 t478 x148_4).f3))) (fun _ hk => trivial)⟩, ⟨by repeat (first | (with_reducible first | exact HB.out | apply zA | apply zB | apply zC | refine zD ?_ GE520.out) | exact HB.out)⟩⟩
                    ·as_aux_lemma =>
                     rw [if_neg c66] at H
                     have c66b0 : ((rd t483 x148_4) == t479) = false := beq_eq_false_iff_ne.mpr c66
                     have c66b1 : ((rd t483 x148_4) != t479) = true := bne_iff_ne.mpr c66
                     exact absurd ((Option.some.inj H).trans hr) (by decide)
                   ·as_aux_lemma =>
                    rw [if_neg c65] at H
                    exact absurd H (by simp)
                  ·as_aux_lemma =>
                   rw [if_neg c64] at H
                   have c64b0 : (((rd_T47 t478 x148_4).f3) == 0) = false := beq_eq_false_iff_ne.mpr c64
                   have c64b1 : (((rd_T47 t478 x148_4).f3) != 0) = true := bne_iff_ne.mpr c64
                   by_cases c81 : ((rd_T47 t478 x148_4).f3) = 1
                   ·as_aux_lemma =>
                    rw [if_pos c81] at H
                    have c81b0 : (((rd_T47 t478 x148_4).f3) == 1) = true := beq_iff_eq.mpr c81
                    have c81b1 : (((rd_T47 t478 x148_4).f3) != 1) = false := bne_eq_false_iff_eq.mpr c81
                    clear c81
                    by_cases c82 : x148_4 < (t483.length : Int)
                    ·as_aux_lemma =>
                     rw [if_pos c82] at H
                     have c82b0 : decide (x148_4 < (t483.length : Int)) = true := decide_eq_true c82
                     clear c82
                     by_cases c83 : (rd t483 x148_4) = t480
                     ·as_aux_lemma =>
                      rw [if_pos c83] at H
                      have c83b0 : ((rd t483 x148_4) == t480) = true := beq_iff_eq.mpr c83
                      have c83b1 : ((rd t483 x148_4) != t480) = false := bne_eq_false_iff_eq.mpr c83
                      clear c83
                      have H' := zK H
                      clear H
                      have p519 : 0 ≤ (x148_4 : Int) := zo
                      have q519 : x148_4 < (t478.length : Int) := zo
                      obtain ⟨ad519, e519, hx519_0, hx519_1, hx519_2, hx519_3⟩ := at_T47 (Kd.R_reads' HO_146.out).2.2 x148_4 p519 q519
                      cases e519
                      replace p519 := eq_true p519
                      replace q519 := eq_true q519
                      go_wp2_with (first | ((with_reducible refine gate_dst (N := 27) rfl ?_); (try (refine gate_guard (by rfl) ?_; dsimp only)); refine box_event ?hg (N := 27) ?hd (cs := #[.string (⟨#[]⟩ : ByteArray), .int .i64 0, .int .i64 0, .int .i64 0]) (t := 47) ?hr ?_; (case hd => rfl); (case hg => rfl); (case hr => first | (go_simp; done) | (go_simp; rfl)); intro gb520 hg w84 hbox hb; have n0_ := zK (Kd.R_below (Kd.R_elderB (by (with_reducible repeat (first | apply Kd.R_alloc | apply Kd.R_drewN | apply Kd.R_drew)); exact HO_5.out) gb520 (Nat.le_of_eq hg.symm)) hb); have n1_ := zK (Kd.R_below (by (with_reducible repeat (first | apply Kd.R_alloc | apply Kd.R_drewN | apply Kd.R_drew)); exact HO_8.out) hb); have n2_ := zK (Kd.R_below (Kd.R_elderB (by (with_reducible repeat (first | apply Kd.R_alloc | apply Kd.R_drewN | apply Kd.R_drew)); exact HO_146.out) gb520 (Nat.le_of_eq hg.symm)) hb); have n3_ := zK (zL (by repeat (first | (with_reducible first | exact HB.out | apply zA | apply zB | apply zC) | exact HB.out)) hb); have n4_ := zK (hbox); have n5_ := zK ((by rw [hg]; exact (zN (by repeat (first | (with_reducible first | exact HB.out | apply zA | apply zB | apply zC) | exact HB.out))) : w.heap.size ≤ gb520)); have n6_ := zK ((by rw [hg]; exact (zN (by repeat (first | (with_reducible first | exact HB.out | apply zA | apply zB | apply zC) | exact HB.out))) : w.heap.size ≤ gb520)); clear HO_5; clear HO_8; clear HO_146; clear HB; have HO_5 := n0_; have HO_8 := n1_; have HO_146 := n2_; have HB := n3_; have BK520 := n4_; have GW520 := n5_; have GE520 := n6_; clear n0_ n1_ n2_ n3_ n4_ n5_ n6_; clear hb hbox hg; have hcz85_0 : w84.cell? ⟨gb520, 0, none⟩ = some (.string (⟨#[]⟩ : ByteArray)) := (zI BK520.out 0).trans rfl; have hcz85_1 : w84.cell? ⟨gb520, 1, none⟩ = some (.int .i64 0) := (zI BK520.out 1).trans rfl; have hcz85_2 : w84.cell? ⟨gb520, 2, none⟩ = some (.int .i64 0) := (zI BK520.out 2).trans rfl; have hcz85_3 : w84.cell? ⟨gb520, 3, none⟩ = some (.int .i64 0) := (zI BK520.out 3).trans rfl; have hfz85_0 := zH BK520.out 0; have hfz85_1 := zH BK520.out 1; have hfz85_2 := zH BK520.out 2; have hfz85_3 := zH BK520.out 3; obtain ⟨Ao86, co86, eo86⟩ := Kd.R_slice HO_8.out; subst eo86; have p523 : 0 ≤ (x148_4 : Int) := zo; have q523 : x148_4 < (t483.length : Int) := zo; obtain ⟨ad523, e523, hx523_0⟩ := Kd.at_int (Kd.R_reads' HO_8.out).2.2 x148_4 p523 q523; cases e523; have hn523_0 : ad523.block ≠ gb520 := Kd.own_blk (by first | exact Kd.R_ne HO_8.out BK520.out (by decide) | (intro e_; exact (HO_8.out.1 _ e_.symm).2 rfl)); have hn523_1 : ad523.block ≠ gb520 := Kd.own_blk (by first | exact Kd.R_ne HO_8.out BK520.out (by decide) | (intro e_; exact (HO_8.out.1 _ e_.symm).2 rfl)); have hn523_2 : ad523.block ≠ gb520 := Kd.own_blk (by first | exact Kd.R_ne HO_8.out BK520.out (by decide) | (intro e_; exact (HO_8.out.1 _ e_.symm).2 rfl)); have hn523_3 : ad523.block ≠ gb520 := Kd.own_blk (by first | exact Kd.R_ne HO_8.out BK520.out (by decide) | (intro e_; exact (HO_8.out.1 _ e_.symm).2 rfl)); replace hx523_0 := (cell_far (p := ⟨gb520, 0, none⟩) (by first | (rw [add_block]; exact hn523_0) | (show (Addr.add _ _).block ≠ _; rw [add_block]; exact hn523_0) | exact hn523_0) (.string ((rd_T47 t478 x148_4).f0))).trans hx523_0; replace hx523_0 := (cell_far (p := ⟨gb520, 1, none⟩) (by first | (rw [add_block]; exact hn523_1) | (show (Addr.add _ _).block ≠ _; rw [add_block]; exact hn523_1) | exact hn523_1) (.int .i64 ((rd_T47 t478 x148_4).f1))).trans hx523_0; replace hx523_0 := (cell_far (p := ⟨gb520, 2, none⟩) (by first | (rw [add_block]; exact hn523_2) | (show (Addr.add _ _).block ≠ _; rw [add_block]; exact hn523_2) | exact hn523_2) (.int .i64 ((rd_T47 t478 x148_4).f2))).trans hx523_0; replace hx523_0 := (cell_far (p := ⟨gb520, 3, none⟩) (by first | (rw [add_block]; exact hn523_3) | (show (Addr.add _ _).block ≠ _; rw [add_block]; exact hn523_3) | exact hn523_3) (.int .i64 ((rd_T47 t478 x148_4).f3))).trans hx523_0; clear hn523_0; clear hn523_1; clear hn523_2; clear hn523_3; replace p523 := eq_true p523; replace q523 := eq_true q523))
                      go_roundg k4
                      case measure => have := HJ8.out; have := HJ34.out; have := HJ52.out; have := HK4.out; omega
                      case rel => exact ⟨(wrap64 (x148_4 + 1)), (by first | rfl | (simp; done) | (simp [*]; done)), H', ⟨by have := HJ8.out; have := HJ34.out; have := HJ52.out; have := HK4.out; omega⟩, ⟨by (with_reducible repeat (first | apply Kd.R_alloc | apply Kd.R_drewN | apply Kd.R_drew)); exact Kd.R_mono (Kd.R_far (p := ⟨gb520, 3, none⟩) (Kd.R_far (p := ⟨gb520, 2, none⟩) (Kd.R_far (p := ⟨gb520, 1, none⟩) (Kd.R_far (p := ⟨gb520, 0, none⟩) (Kd.R_mono HO_5.out (fun k_ hk => (⟨hk, hk.2⟩ : _ ∧ k_ ≠ gb520))) (fun _ hk => hk.2) (.string ((rd_T47 t478 x148_4).f0))) (fun _ hk => hk.2) (.int .i64 ((rd_T47 t478 x148_4).f1))) (fun _ hk => hk.2) (.int .i64 ((rd_T47 t478 x148_4).f2))) (fun _ hk => hk.2) (.int .i64 ((rd_T47 t478 x148_4).f3))) (fun _ hk => trivial)⟩, ⟨by (with_reducible repeat (first | apply Kd.R_alloc | apply Kd.R_drewN | apply Kd.R_drew)); exact Kd.R_mono (Kd.R_far (p := ⟨gb520, 3, none⟩) (Kd.R_far (p := ⟨gb520, 2, none⟩) (Kd.R_far (p := ⟨gb520, 1, none⟩) (Kd.R_far (p := ⟨gb520, 0, none⟩) (Kd.R_types HO_8.out BK520.out (by decide)) (fun _ hk => hk.2) (.string ((rd_T47 t478 x148_4).f0))) (fun _ hk => hk.2) (.int .i64 ((rd_T47 t478 x148_4).f1))) (fun _ hk => hk.2) (.int .i64 ((rd_T47 t478 x148_4).f2))) (fun _ hk => hk.2) (.int .i64 ((rd_T47 t478 x148_4).f3))) (fun _ hk => trivial)⟩, ⟨by (with_reducible repeat (first | apply Kd.R_alloc | apply Kd.R_drewN | apply Kd.R_drew)); exact Kd.R_mono (Kd.R_far (p := ⟨gb520, 3, none⟩) (Kd.R_far (p := ⟨gb520, 2, none⟩) (Kd.R_far (p := ⟨gb520, 1, none⟩) (Kd.R_far (p := ⟨gb520, 0, none⟩) (Kd.R_mono HO_146.out (fun k_ hk => (⟨hk, hk.2⟩ : _ ∧ k_ ≠ gb520))) (fun _ hk => hk.2) (.string ((rd_T47 t478 x148_4).f0))) (fun _ hk => hk.2) (.int .i64 ((rd_T47 t478 x148_4).f1))) (fun _ hk => hk.2) (.int .i64 ((rd_T47 t478 x148_4).f2))) (fun _ hk => hk.2) (.int .i64 ((rd_T47 t478 x148_4).f3))) (fun _ hk => trivial)⟩, ⟨by repeat (first | (with_reducible first | exact HB.out | apply zA | apply zB | apply zC | refine zD ?_ GE520.out) | exact HB.out)⟩⟩
                     ·as_aux_lemma =>
                      rw [if_neg c83] at H
                      have c83b0 : ((rd t483 x148_4) == t480) = false := beq_eq_false_iff_ne.mpr c83
                      have c83b1 : ((rd t483 x148_4) != t480) = true := bne_iff_ne.mpr c83
                      exact absurd ((Option.some.inj H).trans hr) (by decide)
                    ·as_aux_lemma =>
                     rw [if_neg c82] at H
                     exact absurd H (by simp)
                   ·as_aux_lemma =>
                    rw [if_neg c81] at H
                    have c81b0 : (((rd_T47 t478 x148_4).f3) == 1) = false := beq_eq_false_iff_ne.mpr c81
                    have c81b1 : (((rd_T47 t478 x148_4).f3) != 1) = true := bne_iff_ne.mpr c81
                    have H' := zK H
                    clear H
                    have p519 : 0 ≤ (x148_4 : Int) := zo
                    have q519 : x148_4 < (t478.length : Int) := zo
                    obtain ⟨ad519, e519, hx519_0, hx519_1, hx519_2, hx519_3⟩ := at_T47 (Kd.R_reads' HO_146.out).2.2 x148_4 p519 q519
                    cases e519
                    replace p519 := eq_true p519
                    replace q519 := eq_true q519
                    go_wp2_with (first | ((with_reducible refine gate_dst (N := 27) rfl ?_); (try (refine gate_guard (by rfl) ?_; dsimp only)); refine box_event ?hg (N := 27) ?hd (cs := #[.string (⟨#[]⟩ : ByteArray), .int .i64 0, .int .i64 0, .int .i64 0]) (t := 47) ?hr ?_; (case hd => rfl); (case hg => rfl); (case hr => first | (go_simp; done) | (go_simp; rfl)); intro gb520 hg w90 hbox hb; have n0_ := zK (Kd.R_below (Kd.R_elderB (by (with_reducible repeat (first | apply Kd.R_alloc | apply Kd.R_drewN | apply Kd.R_drew)); exact HO_5.out) gb520 (Nat.le_of_eq hg.symm)) hb); have n1_ := zK (Kd.R_below (by (with_reducible repeat (first | apply Kd.R_alloc | apply Kd.R_drewN | apply Kd.R_drew)); exact HO_8.out) hb); have n2_ := zK (Kd.R_below (Kd.R_elderB (by (with_reducible repeat (first | apply Kd.R_alloc | apply Kd.R_drewN | apply Kd.R_drew)); exact HO_146.out) gb520 (Nat.le_of_eq hg.symm)) hb); have n3_ := zK (zL (by repeat (first | (with_reducible first | exact HB.out | apply zA | apply zB | apply zC) | exact HB.out)) hb); have n4_ := zK (hbox); have n5_ := zK ((by rw [hg]; exact (zN (by repeat (first | (with_reducible first | exact HB.out | apply zA | apply zB | apply zC) | exact HB.out))) : w.heap.size ≤ gb520)); have n6_ := zK ((by rw [hg]; exact (zN (by repeat (first | (with_reducible first | exact HB.out | apply zA | apply zB | apply zC) | exact HB.out))) : w.heap.size ≤ gb520)); clear HO_5; clear HO_8; clear HO_146; clear HB; have HO_5 := n0_; have HO_8 := n1_; have HO_146 := n2_; have HB := n3_; have BK520 := n4_; have GW520 := n5_; have GE520 := n6_; clear n0_ n1_ n2_ n3_ n4_ n5_ n6_; clear hb hbox hg; have hcz91_0 : w90.cell? ⟨gb520, 0, none⟩ = some (.string (⟨#[]⟩ : ByteArray)) := (zI BK520.out 0).trans rfl; have hcz91_1 : w90.cell? ⟨gb520, 1, none⟩ = some (.int .i64 0) := (zI BK520.out 1).trans rfl; have hcz91_2 : w90.cell? ⟨gb520, 2, none⟩ = some (.int .i64 0) := (zI BK520.out 2).trans rfl; have hcz91_3 : w90.cell? ⟨gb520, 3, none⟩ = some (.int .i64 0) := (zI BK520.out 3).trans rfl; have hfz91_0 := zH BK520.out 0; have hfz91_1 := zH BK520.out 1; have hfz91_2 := zH BK520.out 2; have hfz91_3 := zH BK520.out 3))
                    go_roundg k4
                    case measure => have := HJ8.out; have := HJ34.out; have := HJ52.out; have := HK4.out; omega
                    case rel => exact ⟨(wrap64 (x148_4 + 1)), (by first | rfl | (simp; done) | (simp [*]; done)), H', ⟨by have := HJ8.out; have := HJ34.out; have := HJ52.out; have := HK4.out; omega⟩, ⟨by (with_reducible repeat (first | apply Kd.R_alloc | apply Kd.R_drewN | apply Kd.R_drew)); exact Kd.R_mono (Kd.R_far (p := ⟨gb520, 3, none⟩) (Kd.R_far (p := ⟨gb520, 2, none⟩) (Kd.R_far (p := ⟨gb520, 1, none⟩) (Kd.R_far (p := ⟨gb520, 0, none⟩) (Kd.R_mono HO_5.out (fun k_ hk => (⟨hk, hk.2⟩ : _ ∧ k_ ≠ gb520))) (fun _ hk => hk.2) (.string ((rd_T47 t478 x148_4).f0))) (fun _ hk => hk.2) (.int .i64 ((rd_T47 t478 x148_4).f1))) (fun _ hk => hk.2) (.int .i64 ((rd_T47 t478 x148_4).f2))) (fun _ hk => hk.2) (.int .i64 ((rd_T47 t478 x148_4).f3))) (fun _ hk => trivial)⟩, ⟨by (with_reducible repeat (first | apply Kd.R_alloc | apply Kd.R_drewN | apply Kd.R_drew)); exact Kd.R_mono (Kd.R_far (p := ⟨gb520, 3, none⟩) (Kd.R_far (p := ⟨gb520, 2, none⟩) (Kd.R_far (p := ⟨gb520, 1, none⟩) (Kd.R_far (p := ⟨gb520, 0, none⟩) (Kd.R_types HO_8.out BK520.out (by decide)) (fun _ hk => hk.2) (.string ((rd_T47 t478 x148_4).f0))) (fun _ hk => hk.2) (.int .i64 ((rd_T47 t478 x148_4).f1))) (fun _ hk => hk.2) (.int .i64 ((rd_T47 t478 x148_4).f2))) (fun _ hk => hk.2) (.int .i64 ((rd_T47 t478 x148_4).f3))) (fun _ hk => trivial)⟩, ⟨by (with_reducible repeat (first | apply Kd.R_alloc | apply Kd.R_drewN | apply Kd.R_drew)); exact Kd.R_mono (Kd.R_far (p := ⟨gb520, 3, none⟩) (Kd.R_far (p := ⟨gb520, 2, none⟩) (Kd.R_far (p := ⟨gb520, 1, none⟩) (Kd.R_far (p := ⟨gb520, 0, none⟩) (Kd.R_mono HO_146.out (fun k_ hk => (⟨hk, hk.2⟩ : _ ∧ k_ ≠ gb520))) (fun _ hk => hk.2) (.string ((rd_T47 t478 x148_4).f0))) (fun _ hk => hk.2) (.int .i64 ((rd_T47 t478 x148_4).f1))) (fun _ hk => hk.2) (.int .i64 ((rd_T47 t478 x148_4).f2))) (fun _ hk => hk.2) (.int .i64 ((rd_T47 t478 x148_4).f3))) (fun _ hk => trivial)⟩, ⟨by repeat (first | (with_reducible first | exact HB.out | apply zA | apply zB | apply zC | refine zD ?_ GE520.out) | exact HB.out)⟩⟩
                 ·as_aux_lemma =>
                  rw [if_neg c63] at H
                  have c63b0 : (((rd_T47 t478 x148_4).f0).toList == ([105, 110] : List UInt8)) = false := beq_eq_false_iff_ne.mpr c63
                  have c63b1 : (((rd_T47 t478 x148_4).f0).toList != ([105, 110] : List UInt8)) = true := bne_iff_ne.mpr c63
                  by_cases c92 : ((rd_T47 t478 x148_4).f0).toList = ([99, 111, 110, 115, 116] : List UInt8)
                  ·as_aux_lemma =>
                   rw [if_pos c92] at H
                   have c92b0 : (((rd_T47 t478 x148_4).f0).toList == ([99, 111, 110, 115, 116] : List UInt8)) = true := beq_iff_eq.mpr c92
                   have c92b1 : (((rd_T47 t478 x148_4).f0).toList != ([99, 111, 110, 115, 116] : List UInt8)) = false := bne_eq_false_iff_eq.mpr c92
                   clear c92
                   by_cases c93 : x148_4 < (t483.length : Int)
                   ·as_aux_lemma =>
                    rw [if_pos c93] at H
                    have c93b0 : decide (x148_4 < (t483.length : Int)) = true := decide_eq_true c93
                    clear c93
                    by_cases c94 : (rd t483 x148_4) = ((rd_T47 t478 x148_4).f3)
                    ·as_aux_lemma =>
                     rw [if_pos c94] at H
                     have c94b0 : ((rd t483 x148_4) == ((rd_T47 t478 x148_4).f3)) = true := beq_iff_eq.mpr c94
                     have c94b1 : ((rd t483 x148_4) != ((rd_T47 t478 x148_4).f3)) = false := bne_eq_false_iff_eq.mpr c94
                     clear c94
                     have H' := zK H
                     clear H
                     have p519 : 0 ≤ (x148_4 : Int) := zo
                     have q519 : x148_4 < (t478.length : Int) := zo
                     obtain ⟨ad519, e519, hx519_0, hx519_1, hx519_2, hx519_3⟩ := at_T47 (Kd.R_reads' HO_146.out).2.2 x148_4 p519 q519
                     cases e519
                     replace p519 := eq_true p519
                     replace q519 := eq_true q519
                     try go_wp2_with (first | ((with_reducible refine gate_dst (N := 27) rfl ?_); (try (refine gate_guard (by rfl) ?_; dsimp only)); refine box_event ?hg (N := 27) ?hd (cs := #[.string (⟨#[]⟩ : ByteArray), .int .i64 0, .int .i64 0, .int .i64 0]) (t := 47) ?hr ?_; (case hd => rfl); (case hg => rfl); (case hr => first | (go_simp; done) | (go_simp; rfl)); intro gb520 hg w95 hbox hb; have n0_ := zK (Kd.R_below (Kd.R_elderB (by (with_reducible repeat (first | apply Kd.R_alloc | apply Kd.R_drewN | apply Kd.R_drew)); exact HO_5.out) gb520 (Nat.le_of_eq hg.symm)) hb); have n1_ := zK (Kd.R_below (by (with_reducible repeat (first | apply Kd.R_alloc | apply Kd.R_drewN | apply Kd.R_drew)); exact HO_8.out) hb); have n2_ := zK (Kd.R_below (Kd.R_elderB (by (with_reducible repeat (first | apply Kd.R_alloc | apply Kd.R_drewN | apply Kd.R_drew)); exact HO_146.out) gb520 (Nat.le_of_eq hg.symm)) hb); have n3_ := zK (zL (by repeat (first | (with_reducible first | exact HB.out | apply zA | apply zB | apply zC) | exact HB.out)) hb); have n4_ := zK (hbox); have n5_ := zK ((by rw [hg]; exact (zN (by repeat (first | (with_reducible first | exact HB.out | apply zA | apply zB | apply zC) | exact HB.out))) : w.heap.size ≤ gb520)); have n6_ := zK ((by rw [hg]; exact (zN (by repeat (first | (with_reducible first | exact HB.out | apply zA | apply zB | apply zC) | exact HB.out))) : w.heap.size ≤ gb520)); clear HO_5; clear HO_8; clear HO_146; clear HB; have HO_5 := n0_; have HO_8 := n1_; have HO_146 := n2_; have HB := n3_; have BK520 := n4_; have GW520 := n5_; have GE520 := n6_; clear n0_ n1_ n2_ n3_ n4_ n5_ n6_; clear hb hbox hg; have hcz96_0 : w95.cell? ⟨gb520, 0, none⟩ = some (.string (⟨#[]⟩ : ByteArray)) := (zI BK520.out 0).trans rfl; have hcz96_1 : w95.cell? ⟨gb520, 1, none⟩ = some (.int .i64 0) := (zI BK520.out 1).trans rfl; have hcz96_2 : w95.cell? ⟨gb520, 2, none⟩ = some (.int .i64 0) := (zI BK520.out 2).trans rfl; have hcz96_3 : w95.cell? ⟨gb520, 3, none⟩ = some (.int .i64 0) := (zI BK520.out 3).trans rfl; have hfz96_0 := zH BK520.out 0; have hfz96_1 := zH BK520.out 1; have hfz96_2 := zH BK520.out 2; have hfz96_3 := zH BK520.out 3))
                     have n0_ : Aside0 (Kd.R k47 47 ((((w95.setCell ⟨gb520, 0, none⟩ (.string ((rd_T47 t478 x148_4).f0))).setCell ⟨gb520, 1, none⟩ (.int .i64 ((rd_T47 t478 x148_4).f1))).setCell ⟨gb520, 2, none⟩ (.int .i64 ((rd_T47 t478 x148_4).f2))).setCell ⟨gb520, 3, none⟩ (.int .i64 ((rd_T47 t478 x148_4).f3))) w.heap.size (fun k_ => k_ ≠ gb520) (.slice (some ad519) t478.length co11) t478) := ⟨by (with_reducible repeat (first | apply Kd.R_alloc | apply Kd.R_drewN | apply Kd.R_drew)); exact Kd.R_mono (Kd.R_far (p := ⟨gb520, 3, none⟩) (Kd.R_far (p := ⟨gb520, 2, none⟩) (Kd.R_far (p := ⟨gb520, 1, none⟩) (Kd.R_far (p := ⟨gb520, 0, none⟩) (Kd.R_mono HO_5.out (fun k_ hk => (⟨hk, hk.2⟩ : _ ∧ k_ ≠ gb520))) (fun _ hk => hk.2) (.string ((rd_T47 t478 x148_4).f0))) (fun _ hk => hk.2) (.int .i64 ((rd_T47 t478 x148_4).f1))) (fun _ hk => hk.2) (.int .i64 ((rd_T47 t478 x148_4).f2))) (fun _ hk => hk.2) (.int .i64 ((rd_T47 t478 x148_4).f3))) (fun _ hk => hk.1.2)⟩
                     have n1_ : Aside0 (Kd.R (Kd.int .i64) 3 ((((w95.setCell ⟨gb520, 0, none⟩ (.string ((rd_T47 t478 x148_4).f0))).setCell ⟨gb520, 1, none⟩ (.int .i64 ((rd_T47 t478 x148_4).f1))).setCell ⟨gb520, 2, none⟩ (.int .i64 ((rd_T47 t478 x148_4).f2))).setCell ⟨gb520, 3, none⟩ (.int .i64 ((rd_T47 t478 x148_4).f3))) w.heap.size (fun _ => True) v485 t483) := ⟨by (with_reducible repeat (first | apply Kd.R_alloc | apply Kd.R_drewN | apply Kd.R_drew)); exact Kd.R_mono (Kd.R_far (p := ⟨gb520, 3, none⟩) (Kd.R_far (p := ⟨gb520, 2, none⟩) (Kd.R_far (p := ⟨gb520, 1, none⟩) (Kd.R_far (p := ⟨gb520, 0, none⟩) (Kd.R_types HO_8.out BK520.out (by decide)) (fun _ hk => hk.2) (.string ((rd_T47 t478 x148_4).f0))) (fun _ hk => hk.2) (.int .i64 ((rd_T47 t478 x148_4).f1))) (fun _ hk => hk.2) (.int .i64 ((rd_T47 t478 x148_4).f2))) (fun _ hk => hk.2) (.int .i64 ((rd_T47 t478 x148_4).f3))) (fun _ hk => trivial)⟩
                     have n2_ : Aside0 (Kd.R k47 47 ((((w95.setCell ⟨gb520, 0, none⟩ (.string ((rd_T47 t478 x148_4).f0))).setCell ⟨gb520, 1, none⟩ (.int .i64 ((rd_T47 t478 x148_4).f1))).setCell ⟨gb520, 2, none⟩ (.int .i64 ((rd_T47 t478 x148_4).f2))).setCell ⟨gb520, 3, none⟩ (.int .i64 ((rd_T47 t478 x148_4).f3))) w.heap.size (fun k_ => k_ ≠ gb520) (.slice (some ad519) t478.length co11) t478) := ⟨by (with_reducible repeat (first | apply Kd.R_alloc | apply Kd.R_drewN | apply Kd.R_drew)); exact Kd.R_mono (Kd.R_far (p := ⟨gb520, 3, none⟩) (Kd.R_far (p := ⟨gb520, 2, none⟩) (Kd.R_far (p := ⟨gb520, 1, none⟩) (Kd.R_far (p := ⟨gb520, 0, none⟩) (Kd.R_mono HO_146.out (fun k_ hk => (⟨hk, hk.2⟩ : _ ∧ k_ ≠ gb520))) (fun _ hk => hk.2) (.string ((rd_T47 t478 x148_4).f0))) (fun _ hk => hk.2) (.int .i64 ((rd_T47 t478 x148_4).f1))) (fun _ hk => hk.2) (.int .i64 ((rd_T47 t478 x148_4).f2))) (fun _ hk => hk.2) (.int .i64 ((rd_T47 t478 x148_4).f3))) (fun _ hk => hk.1.2)⟩
                     have n3_ : Aside0 (((((w95.setCell ⟨gb520, 0, none⟩ (.string ((rd_T47 t478 x148_4).f0))).setCell ⟨gb520, 1, none⟩ (.int .i64 ((rd_T47 t478 x148_4).f1))).setCell ⟨gb520, 2, none⟩ (.int .i64 ((rd_T47 t478 x148_4).f2))).setCell ⟨gb520, 3, none⟩ (.int .i64 ((rd_T47 t478 x148_4).f3))).heap[gb520]? = some (.cells #[.string ((rd_T47 t478 x148_4).f0), .int .i64 ((rd_T47 t478 x148_4).f1), .int .i64 ((rd_T47 t478 x148_4).f2), .int .i64 ((rd_T47 t478 x148_4).f3)] 47 (0, 0))) := ⟨by (with_reducible repeat (first | refine zE ?_ _ | refine zF ?_ | refine zG ?_ _)); refine blk_put (cs := #[.string ((rd_T47 t478 x148_4).f0), .int .i64 ((rd_T47 t478 x148_4).f1), .int .i64 ((rd_T47 t478 x148_4).f2), .int .i64 0]) ?_ 3 _ rfl; (with_reducible repeat (first | refine zE ?_ _ | refine zF ?_ | refine zG ?_ _)); refine blk_put (cs := #[.string ((rd_T47 t478 x148_4).f0), .int .i64 ((rd_T47 t478 x148_4).f1), .int .i64 0, .int .i64 0]) ?_ 2 _ rfl; (with_reducible repeat (first | refine zE ?_ _ | refine zF ?_ | refine zG ?_ _)); refine blk_put (cs := #[.string ((rd_T47 t478 x148_4).f0), .int .i64 0, .int .i64 0, .int .i64 0]) ?_ 1 _ rfl; (with_reducible repeat (first | refine zE ?_ _ | refine zF ?_ | refine zG ?_ _)); refine blk_put (cs := #[.string (⟨#[]⟩ : ByteArray), .int .i64 0, .int .i64 0, .int .i64 0]) ?_ 0 _ rfl; (with_reducible repeat (first | refine zE ?_ _ | refine zF ?_ | refine zG ?_ _)); exact BK520.out⟩
                     have n4_ : Aside0 (Below w.heap.size w ((((w95.setCell ⟨gb520, 0, none⟩ (.string ((rd_T47 t478 x148_4).f0))).setCell ⟨gb520, 1, none⟩ (.int .i64 ((rd_T47 t478 x148_4).f1))).setCell ⟨gb520, 2, none⟩ (.int .i64 ((rd_T47 t478 x148_4).f2))).setCell ⟨gb520, 3, none⟩ (.int .i64 ((rd_T47 t478 x148_4).f3)))) := ⟨by repeat (first | (with_reducible first | exact HB.out | apply zA | apply zB | apply zC | refine zD ?_ GE520.out) | exact HB.out)⟩
                     (try clear HO_5)
                     (try clear HO_8)
                     (try clear HO_146)
                     (try clear BK520)
                     (try clear HB)
                     generalize ((((w95.setCell ⟨gb520, 0, none⟩ (.string ((rd_T47 t478 x148_4).f0))).setCell ⟨gb520, 1, none⟩ (.int .i64 ((rd_T47 t478 x148_4).f1))).setCell ⟨gb520, 2, none⟩ (.int .i64 ((rd_T47 t478 x148_4).f2))).setCell ⟨gb520, 3, none⟩ (.int .i64 ((rd_T47 t478 x148_4).f3))) = w97 at n0_ n1_ n2_ n3_ n4_ ⊢
                     have HO_5 := n0_
                     have HO_8 := n1_
                     have HO_146 := n2_
                     have BK520 := n3_
                     have HB := n4_
                     clear n0_ n1_ n2_ n3_ n4_
                     have n0_ := zK (Kd.R_drew HO_5.out)
                     have n1_ := zK (Kd.R_drew HO_8.out)
                     have n2_ := zK (Kd.R_drew HO_146.out)
                     have n3_ := zK (zF BK520.out)
                     have n4_ := zK (zC HB.out)
                     clear HO_5
                     clear HO_8
                     clear HO_146
                     clear BK520
                     clear HB
                     have HO_5 := n0_
                     have HO_8 := n1_
                     have HO_146 := n2_
                     have BK520 := n3_
                     have HB := n4_
                     clear n0_ n1_ n2_ n3_ n4_
                     obtain ⟨Ao99, co99, eo99⟩ := Kd.R_slice HO_8.out
                     (first | subst eo99 | (injection eo99 with f1_ f2_ f3_; have f4_ := f1_.symm; have f5_ := f3_.symm; clear f1_ f2_ f3_; subst f4_; subst f5_))
                     have p524 : 0 ≤ (x148_4 : Int) := zo
                     have q524 : x148_4 < (t483.length : Int) := zo
                     obtain ⟨ad524, e524, hx524_0⟩ := Kd.at_int (Kd.R_reads' HO_8.out).2.2 x148_4 p524 q524
                     cases e524
                     replace p524 := eq_true p524
                     replace q524 := eq_true q524
                     refine start_ (n := 7) (S := fun w' => w'.cell? ⟨gb520, 0, none⟩ = some (.string ((rd_T47 t478 x148_4).f0)) ∧ w'.cell? ⟨gb520, 1, none⟩ = some (.int .i64 ((rd_T47 t478 x148_4).f1)) ∧ w'.cell? ⟨gb520, 2, none⟩ = some (.int .i64 ((rd_T47 t478 x148_4).f2)) ∧ w'.cell? ⟨gb520, 3, none⟩ = some (.int .i64 ((rd_T47 t478 x148_4).f3)) ∧ w'.cell? (ad524.add (x148_4).toNat) = some (.int .i64 (rd t483 x148_4))) (ds := []) #[false, false, false, false, false, false, false] (by kernel_rfl) rfl rfl ⟨(zI BK520.out 0).trans rfl, (zI BK520.out 1).trans rfl, (zI BK520.out 2).trans rfl, (zI BK520.out 3).trans rfl, hx524_0⟩ (fun hHeld => ?_)
                     generalize w97.drew = w98 at HO_5 HO_8 HO_146 BK520 HB hx524_0 hHeld ⊢
                     refine pure_ (i := 0) (N := some 209) (v := ?_) (a' := ?_) #[true, false, false, false, false, false, false] rfl rfl (by kernel_rfl) (fun _ _ _ h => h) (Or.inl ⟨by rfl, ?_⟩) ?_ ?_
                     rotate_left
                     ·intro w'
                      go_simp
                      with_reducible rfl
                     rotate_left
                     ·simp only [Act.put, z1, z2, z3, i64_w, i32_w]
                      rfl
                     refine pure_ (i := 1) (N := some 210) (v := ?_) (a' := ?_) #[true, true, false, false, false, false, false] rfl rfl (by kernel_rfl) (fun _ _ _ h => h) (Or.inl ⟨by rfl, ?_⟩) ?_ ?_
                     rotate_left
                     ·intro w'
                      go_simp
                      with_reducible rfl
                     rotate_left
                     ·simp only [Act.put, z1, z2, z3, i64_w, i32_w]
                      rfl
                     refine pure_ (i := 2) (N := some 211) (v := ?_) (a' := ?_) #[true, true, true, false, false, false, false] rfl rfl (by kernel_rfl) (fun _ _ _ h => h) (Or.inl ⟨by rfl, ?_⟩) ?_ ?_
                     rotate_left
                     ·intro w'
                      go_simp
                      with_reducible rfl
                     rotate_left
                     ·simp only [Act.put, z1, z2, z3, i64_w, i32_w]
                      rfl
                     refine pure_ (i := 4) (N := some 213) (v := ?_) (a' := ?_) #[true, true, true, false, true, false, false] rfl rfl (by kernel_rfl) (fun _ _ _ h => h) (Or.inl ⟨by rfl, ?_⟩) ?_ ?_
                     rotate_left
                     ·intro w'
                      go_simp
                      with_reducible rfl
                     rotate_left
                     ·simp only [Act.put, z1, z2, z3, i64_w, i32_w]
                      rfl
                     refine take_ (i := 3) (N := some 212) (v := ?_) (a' := ?_) #[true, true, true, true, true, false, false] rfl rfl (by kernel_rfl) (fun _ _ _ h => h) (Or.inl ⟨by rfl, ?_⟩) hHeld ?_ ?_
                     rotate_left
                     ·rintro w' ⟨s0, s1, s2, s3, s4⟩
                      go_simp
                      with_reducible rfl
                     rotate_left
                     ·simp only [Act.put, z1, z2, z3, i64_w, i32_w]
                      rfl
                     refine take_ (i := 5) (N := some 214) (v := ?_) (a' := ?_) #[true, true, true, true, true, true, false] rfl rfl (by kernel_rfl) (fun _ _ _ h => h) (Or.inl ⟨by rfl, ?_⟩) hHeld ?_ ?_
                     rotate_left
                     ·rintro w' ⟨s0, s1, s2, s3, s4⟩
                      go_simp
                      with_reducible rfl
                     rotate_left
                     ·simp only [Act.put, z1, z2, z3, i64_w, i32_w]
                      rfl
                     refine pure_ (i := 6) (N := some 215) (v := ?_) (a' := ?_) #[true, true, true, true, true, true, true] rfl rfl (by kernel_rfl) (fun _ _ _ h => h) (Or.inl ⟨by rfl, ?_⟩) ?_ ?_
                     rotate_left
                     ·intro w'
                      go_simp
                      with_reducible rfl
                     rotate_left
                     ·simp only [Act.put, z1, z2, z3, i64_w, i32_w]
                      rfl
                     refine done_ (by kernel_rfl) ?_
                     try go_wp2
                     go_roundg k4
                     case measure => have := HJ8.out; have := HJ34.out; have := HJ52.out; have := HK4.out; omega
                     case rel => exact ⟨(wrap64 (x148_4 + 1)), (by first | rfl | (simp; done) | (simp [*]; done)), H', ⟨by have := HJ8.out; have := HJ34.out; have := HJ52.out; have := HK4.out; omega⟩, ⟨by (with_reducible repeat (first | apply Kd.R_alloc | apply Kd.R_drewN | apply Kd.R_drew)); exact Kd.R_mono HO_5.out (fun _ hk => trivial)⟩, ⟨by (with_reducible repeat (first | apply Kd.R_alloc | apply Kd.R_drewN | apply Kd.R_drew)); exact HO_8.out⟩, ⟨by (with_reducible repeat (first | apply Kd.R_alloc | apply Kd.R_drewN | apply Kd.R_drew)); exact Kd.R_mono HO_146.out (fun _ hk => trivial)⟩, ⟨by repeat (first | (with_reducible first | exact HB.out | apply zA | apply zB | apply zC | refine zD ?_ GE520.out) | exact HB.out)⟩⟩
                    ·as_aux_lemma =>
                     rw [if_neg c94] at H
                     have c94b0 : ((rd t483 x148_4) == ((rd_T47 t478 x148_4).f3)) = false := beq_eq_false_iff_ne.mpr c94
                     have c94b1 : ((rd t483 x148_4) != ((rd_T47 t478 x148_4).f3)) = true := bne_iff_ne.mpr c94
                     exact absurd ((Option.some.inj H).trans hr) (by decide)
                   ·as_aux_lemma =>
                    rw [if_neg c93] at H
                    exact absurd H (by simp)
                  ·as_aux_lemma =>
                   rw [if_neg c92] at H
                   have c92b0 : (((rd_T47 t478 x148_4).f0).toList == ([99, 111, 110, 115, 116] : List UInt8)) = false := beq_eq_false_iff_ne.mpr c92
                   have c92b1 : (((rd_T47 t478 x148_4).f0).toList != ([99, 111, 110, 115, 116] : List UInt8)) = true := bne_iff_ne.mpr c92
                   have HC105 := zK H
                   clear H
                   have p519 : 0 ≤ (x148_4 : Int) := zo
                   have q519 : x148_4 < (t478.length : Int) := zo
                   obtain ⟨ad519, e519, hx519_0, hx519_1, hx519_2, hx519_3⟩ := at_T47 (Kd.R_reads' HO_146.out).2.2 x148_4 p519 q519
                   cases e519
                   replace p519 := eq_true p519
                   replace q519 := eq_true q519
                   go_upto_if 216 with (first | ((with_reducible refine gate_dst (N := 27) rfl ?_); (try (refine gate_guard (by rfl) ?_; dsimp only)); refine box_event ?hg (N := 27) ?hd (cs := #[.string (⟨#[]⟩ : ByteArray), .int .i64 0, .int .i64 0, .int .i64 0]) (t := 47) ?hr ?_; (case hd => rfl); (case hg => rfl); (case hr => first | (go_simp; done) | (go_simp; rfl)); intro gb520 hg w106 hbox hb; have n0_ := zK (Kd.R_below (Kd.R_elderB (by (with_reducible repeat (first | apply Kd.R_alloc | apply Kd.R_drewN | apply Kd.R_drew)); exact HO_5.out) gb520 (Nat.le_of_eq hg.symm)) hb); have n1_ := zK (Kd.R_below (by (with_reducible repeat (first | apply Kd.R_alloc | apply Kd.R_drewN | apply Kd.R_drew)); exact HO_8.out) hb); have n2_ := zK (Kd.R_below (Kd.R_elderB (by (with_reducible repeat (first | apply Kd.R_alloc | apply Kd.R_drewN | apply Kd.R_drew)); exact HO_146.out) gb520 (Nat.le_of_eq hg.symm)) hb); have n3_ := zK (zL (by repeat (first | (with_reducible first | exact HB.out | apply zA | apply zB | apply zC) | exact HB.out)) hb); have n4_ := zK (hbox); have n5_ := zK ((by rw [hg]; exact (zN (by repeat (first | (with_reducible first | exact HB.out | apply zA | apply zB | apply zC) | exact HB.out))) : w.heap.size ≤ gb520)); have n6_ := zK ((by rw [hg]; exact (zN (by repeat (first | (with_reducible first | exact HB.out | apply zA | apply zB | apply zC) | exact HB.out))) : w.heap.size ≤ gb520)); clear HO_5; clear HO_8; clear HO_146; clear HB; have HO_5 := n0_; have HO_8 := n1_; have HO_146 := n2_; have HB := n3_; have BK520 := n4_; have GW520 := n5_; have GE520 := n6_; clear n0_ n1_ n2_ n3_ n4_ n5_ n6_; clear hb hbox hg; have hcz107_0 : w106.cell? ⟨gb520, 0, none⟩ = some (.string (⟨#[]⟩ : ByteArray)) := (zI BK520.out 0).trans rfl; have hcz107_1 : w106.cell? ⟨gb520, 1, none⟩ = some (.int .i64 0) := (zI BK520.out 1).trans rfl; have hcz107_2 : w106.cell? ⟨gb520, 2, none⟩ = some (.int .i64 0) := (zI BK520.out 2).trans rfl; have hcz107_3 : w106.cell? ⟨gb520, 3, none⟩ = some (.int .i64 0) := (zI BK520.out 3).trans rfl; have hfz107_0 := zH BK520.out 0; have hfz107_1 := zH BK520.out 1; have hfz107_2 := zH BK520.out 2; have hfz107_3 := zH BK520.out 3))
                   (try simp only [Act.put, z1, z2, z3])
                   go_cut [216] (fun v216 wc => ∃ (kq : Nat) (x216_104 : Bool), v216 = .bool x216_104 ∧ Aside0 (laws_FnValuesOfNodes.j4 kq t478 t479 t480 t483 t491 x148_4 t478 (t478.length : Int) x148_4 x216_104 ((rd_T47 t478 x148_4).f0) ((rd_T47 t478 x148_4).f1) ((rd_T47 t478 x148_4).f2) ((rd_T47 t478 x148_4).f3) = some r) ∧ Aside0 (kq ≤ k4) ∧ Aside0 (Kd.R k47 47 wc w.heap.size (fun k_ => k_ ≠ gb520) (.slice (some ad519) t478.length co11) t478) ∧ Aside0 (Kd.R (Kd.int .i64) 3 wc w.heap.size (fun _ => True) v485 t483) ∧ Aside0 (Kd.R k47 47 wc w.heap.size (fun k_ => k_ ≠ gb520) (.slice (some ad519) t478.length co11) t478) ∧ Aside0 (wc.heap[gb520]? = some (.cells #[.string ((rd_T47 t478 x148_4).f0), .int .i64 ((rd_T47 t478 x148_4).f1), .int .i64 ((rd_T47 t478 x148_4).f2), .int .i64 ((rd_T47 t478 x148_4).f3)] 47 (0, 0))) ∧ Aside0 (Below w.heap.size w wc))
                   case first =>
                    have H := HC105.out
                    clear HC105
                    by_cases c108 : ((rd_T47 t478 x148_4).f0).toList = ([110, 111, 116] : List UInt8)
                    ·as_aux_lemma =>
                     rw [if_pos c108] at H
                     have c108b0 : (((rd_T47 t478 x148_4).f0).toList == ([110, 111, 116] : List UInt8)) = true := beq_iff_eq.mpr c108
                     have c108b1 : (((rd_T47 t478 x148_4).f0).toList != ([110, 111, 116] : List UInt8)) = false := bne_eq_false_iff_eq.mpr c108
                     clear c108
                     (first | rw [c108b0] | (simp only [i64_w, i32_w]; rw [c108b0]) | skip)
                     have H' := zK H
                     clear H
                     go_wp2
                     go_meet
                     case rel => exact ⟨_, ((((rd_T47 t478 x148_4).f0).toList == ([110, 111, 116] : List UInt8))), (by first | rfl | (simp; done) | (simp [*]; done)), H', ⟨by have := HJ8.out; have := HJ34.out; have := HJ52.out; have := HK4.out; first | omega | exact Nat.le_refl _⟩, ⟨by (with_reducible repeat (first | apply Kd.R_alloc | apply Kd.R_drewN | apply Kd.R_drew)); exact Kd.R_mono (Kd.R_far (p := ⟨gb520, 3, none⟩) (Kd.R_far (p := ⟨gb520, 2, none⟩) (Kd.R_far (p := ⟨gb520, 1, none⟩) (Kd.R_far (p := ⟨gb520, 0, none⟩) (Kd.R_mono HO_5.out (fun k_ hk => (⟨hk, hk.2⟩ : _ ∧ k_ ≠ gb520))) (fun _ hk => hk.2) (.string ((rd_T47 t478 x148_4).f0))) (fun _ hk => hk.2) (.int .i64 ((rd_T47 t478 x148_4).f1))) (fun _ hk => hk.2) (.int .i64 ((rd_T47 t478 x148_4).f2))) (fun _ hk => hk.2) (.int .i64 ((rd_T47 t478 x148_4).f3))) (fun _ hk => hk.1.2)⟩, ⟨by (with_reducible repeat (first | apply Kd.R_alloc | apply Kd.R_drewN | apply Kd.R_drew)); exact Kd.R_mono (Kd.R_far (p := ⟨gb520, 3, none⟩) (Kd.R_far (p := ⟨gb520, 2, none⟩) (Kd.R_far (p := ⟨gb520, 1, none⟩) (Kd.R_far (p := ⟨gb520, 0, none⟩) (Kd.R_types HO_8.out BK520.out (by decide)) (fun _ hk => hk.2) (.string ((rd_T47 t478 x148_4).f0))) (fun _ hk => hk.2) (.int .i64 ((rd_T47 t478 x148_4).f1))) (fun _ hk => hk.2) (.int .i64 ((rd_T47 t478 x148_4).f2))) (fun _ hk => hk.2) (.int .i64 ((rd_T47 t478 x148_4).f3))) (fun _ hk => trivial)⟩, ⟨by (with_reducible repeat (first | apply Kd.R_alloc | apply Kd.R_drewN | apply Kd.R_drew)); exact Kd.R_mono (Kd.R_far (p := ⟨gb520, 3, none⟩) (Kd.R_far (p := ⟨gb520, 2, none⟩) (Kd.R_far (p := ⟨gb520, 1, none⟩) (Kd.R_far (p := ⟨gb520, 0, none⟩) (Kd.R_mono HO_146.out (fun k_ hk => (⟨hk, hk.2⟩ : _ ∧ k_ ≠ gb520))) (fun _ hk => hk.2) (.string ((rd_T47 t478 x148_4).f0))) (fun _ hk => hk.2) (.int .i64 ((rd_T47 t478 x148_4).f1))) (fun _ hk => hk.2) (.int .i64 ((rd_T47 t478 x148_4).f2))) (fun _ hk => hk.2) (.int .i64 ((rd_T47 t478 x148_4).f3))) (fun _ hk => hk.1.2)⟩, ⟨by (with_reducible repeat (first | refine zE ?_ _ | refine zF ?_ | refine zG ?_ _)); refine blk_put (cs := #[.string ((rd_T47 t478 x148_4).f0), .int .i64 ((rd_T47 t478 x148_4).f1), .int .i64 ((rd_T47 t478 x148_4).f2), .int .i64 0]) ?_ 3 _ rfl; (with_reducible repeat (first | refine zE ?_ _ | refine zF ?_ | refine zG ?_ _)); refine blk_put (cs := #[.string ((rd_T47 t478 x148_4).f0), .int .i64 ((rd_T47 t478 x148_4).f1), .int .i64 0, .int .i64 0]) ?_ 2 _ rfl; (with_reducible repeat (first | refine zE ?_ _ | refine zF ?_ | refine zG ?_ _)); refine blk_put (cs := #[.string ((rd_T47 t478 x148_4).f0), .int .i64 0, .int .i64 0, .int .i64 0]) ?_ 1 _ rfl; (with_reducible repeat (first | refine zE ?_ _ | refine zF ?_ | refine zG ?_ _)); refine blk_put (cs := #[.string (⟨#[]⟩ : ByteArray), .int .i64 0, .int .i64 0, .int .i64 0]) ?_ 0 _ rfl; (with_reducible repeat (first | refine zE ?_ _ | refine zF ?_ | refine zG ?_ _)); exact BK520.out⟩, ⟨by repeat (first | (with_reducible first | exact HB.out | apply zA | apply zB | apply zC | refine zD ?_ GE520.out) | exact HB.out)⟩⟩
                    ·as_aux_lemma =>
                     rw [if_neg c108] at H
                     have c108b0 : (((rd_T47 t478 x148_4).f0).toList == ([110, 111, 116] : List UInt8)) = false := beq_eq_false_iff_ne.mpr c108
                     have c108b1 : (((rd_T47 t478 x148_4).f0).toList != ([110, 111, 116] : List UInt8)) = true := bne_iff_ne.mpr c108
                     (first | rw [c108b0] | (simp only [i64_w, i32_w]; rw [c108b0]) | skip)
                     have H' := zK H
                     clear H
                     go_wp2
                     go_meet
                     case rel => exact ⟨_, ((((rd_T47 t478 x148_4).f0).toList == ([110, 101, 103] : List UInt8))), (by first | rfl | (simp; done) | (simp [*]; done)), H', ⟨by have := HJ8.out; have := HJ34.out; have := HJ52.out; have := HK4.out; first | omega | exact Nat.le_refl _⟩, ⟨by (with_reducible repeat (first | apply Kd.R_alloc | apply Kd.R_drewN | apply Kd.R_drew)); exact Kd.R_mono (Kd.R_far (p := ⟨gb520, 3, none⟩) (Kd.R_far (p := ⟨gb520, 2, none⟩) (Kd.R_far (p := ⟨gb520, 1, none⟩) (Kd.R_far (p := ⟨gb520, 0, none⟩) (Kd.R_mono HO_5.out (fun k_ hk => (⟨hk, hk.2⟩ : _ ∧ k_ ≠ gb520))) (fun _ hk => hk.2) (.string ((rd_T47 t478 x148_4).f0))) (fun _ hk => hk.2) (.int .i64 ((rd_T47 t478 x148_4).f1))) (fun _ hk => hk.2) (.int .i64 ((rd_T47 t478 x148_4).f2))) (fun _ hk => hk.2) (.int .i64 ((rd_T47 t478 x148_4).f3))) (fun _ hk => hk.1.2)⟩, ⟨by (with_reducible repeat (first | apply Kd.R_alloc | apply Kd.R_drewN | apply Kd.R_drew)); exact Kd.R_mono (Kd.R_far (p := ⟨gb520, 3, none⟩) (Kd.R_far (p := ⟨gb520, 2, none⟩) (Kd.R_far (p := ⟨gb520, 1, none⟩) (Kd.R_far (p := ⟨gb520, 0, none⟩) (Kd.R_types HO_8.out BK520.out (by decide)) (fun _ hk => hk.2) (.string ((rd_T47 t478 x148_4).f0))) (fun _ hk => hk.2) (.int .i64 ((rd_T47 t478 x148_4).f1))) (fun _ hk => hk.2) (.int .i64 ((rd_T47 t478 x148_4).f2))) (fun _ hk => hk.2) (.int .i64 ((rd_T47 t478 x148_4).f3))) (fun _ hk => trivial)⟩, ⟨by (with_reducible repeat (first | apply Kd.R_alloc | apply Kd.R_drewN | apply Kd.R_drew)); exact Kd.R_mono (Kd.R_far (p := ⟨gb520, 3, none⟩) (Kd.R_far (p := ⟨gb520, 2, none⟩) (Kd.R_far (p := ⟨gb520, 1, none⟩) (Kd.R_far (p := ⟨gb520, 0, none⟩) (Kd.R_mono HO_146.out (fun k_ hk => (⟨hk, hk.2⟩ : _ ∧ k_ ≠ gb520))) (fun _ hk => hk.2) (.string ((rd_T47 t478 x148_4).f0))) (fun _ hk => hk.2) (.int .i64 ((rd_T47 t478 x148_4).f1))) (fun _ hk => hk.2) (.int .i64 ((rd_T47 t478 x148_4).f2))) (fun _ hk => hk.2) (.int .i64 ((rd_T47 t478 x148_4).f3))) (fun _ hk => hk.1.2)⟩, ⟨by (with_reducible repeat (first | refine zE ?_ _ | refine zF ?_ | refine zG ?_ _)); refine blk_put (cs := #[.string ((rd_T47 t478 x148_4).f0), .int .i64 ((rd_T47 t478 x148_4).f1), .int .i64 ((rd_T47 t478 x148_4).f2), .int .i64 0]) ?_ 3 _ rfl; (with_reducible repeat (first | refine zE ?_ _ | refine zF ?_ | refine zG ?_ _)); refine blk_put (cs := #[.string ((rd_T47 t478 x148_4).f0), .int .i64 ((rd_T47 t478 x148_4).f1), .int .i64 0, .int .i64 0]) ?_ 2 _ rfl; (with_reducible repeat (first | refine zE ?_ _ | refine zF ?_ | refine zG ?_ _)); refine blk_put (cs := #[.string ((rd_T47 t478 x148_4).f0), .int .i64 0, .int .i64 0, .int .i64 0]) ?_ 1 _ rfl; (with_reducible repeat (first | refine zE ?_ _ | refine zF ?_ | refine zG ?_ _)); refine blk_put (cs := #[.string (⟨#[]⟩ : ByteArray), .int .i64 0, .int .i64 0, .int .i64 0]) ?_ 0 _ rfl; (with_reducible repeat (first | refine zE ?_ _ | refine zF ?_ | refine zG ?_ _)); exact BK520.out⟩, ⟨by repeat (first | (with_reducible first | exact HB.out | apply zA | apply zB | apply zC | refine zD ?_ GE520.out) | exact HB.out)⟩⟩
                   case rest =>
                    clear HC105
                    try clear c1
                    try clear c2
                    try clear p2
                    try clear c3
                    try clear c4
                    try clear p4
                    try clear q4
                    try clear hx4
                    try clear c5
                    try clear p5
                    try clear q5
                    try clear hx5
                    try clear c6
                    try clear p6
                    try clear c8
                    try clear c9
                    try clear c10
                    try clear c15
                    try clear c15b0
                    try clear c15b1
                    try clear c15b2
                    try clear c17
                    try clear c18
                    try clear c18b0
                    try clear c18b1
                    try clear c18b2
                    try clear c19
                    try clear c21
                    try clear c22
                    try clear c23
                    try clear c23b0
                    try clear c24
                    try clear c24b0
                    try clear c25
                    try clear c26
                    try clear c27
                    try clear c28
                    try clear c29
                    try clear c31
                    try clear c40
                    try clear c40b0
                    try clear c40b1
                    try clear c40b2
                    try clear c42
                    try clear c49
                    try clear p49
                    try clear q49
                    try clear hx49
                    try clear p51
                    try clear q51
                    try clear hx51
                    try clear p52
                    try clear q52
                    try clear hx52
                    try clear c57
                    try clear c57b0
                    try clear c57b1
                    try clear c57b2
                    try clear c58
                    try clear c59
                    try clear c60
                    try clear c60b0
                    try clear c61
                    try clear c61b0
                    try clear c62
                    try clear c62b0
                    try clear c63
                    try clear c63b0
                    try clear c63b1
                    try clear c64
                    try clear c64b0
                    try clear c64b1
                    try clear p64
                    try clear c65
                    try clear c65b0
                    try clear c66
                    try clear c66b0
                    try clear c66b1
                    try clear c67
                    try clear c67b0
                    try clear c67b1
                    try clear c68
                    try clear c68b0
                    try clear c68b1
                    try clear c81
                    try clear c81b0
                    try clear c81b1
                    try clear c82
                    try clear c82b0
                    try clear c83
                    try clear c83b0
                    try clear c83b1
                    try clear c92
                    try clear c92b0
                    try clear c92b1
                    try clear c93
                    try clear c93b0
                    try clear c94
                    try clear c94b0
                    try clear c94b1
                    try clear c108
                    try clear c108b0
                    try clear c108b1
                    try clear hcz101_0
                    try clear hcz101_1
                    try clear hcz101_2
                    try clear hcz101_3
                    try clear hcz107_0
                    try clear hcz107_1
                    try clear hcz107_2
                    try clear hcz107_3
                    try clear hcz70_0
                    try clear hcz70_1
                    try clear hcz70_2
                    try clear hcz70_3
                    try clear hcz73_0
                    try clear hcz73_1
                    try clear hcz73_2
                    try clear hcz73_3
                    try clear hcz76_0
                    try clear hcz76_1
                    try clear hcz76_2
                    try clear hcz76_3
                    try clear hcz79_0
                    try clear hcz79_1
                    try clear hcz79_2
                    try clear hcz79_3
                    try clear hcz85_0
                    try clear hcz85_1
                    try clear hcz85_2
                    try clear hcz85_3
                    try clear hcz88_0
                    try clear hcz88_1
                    try clear hcz88_2
                    try clear hcz88_3
                    try clear hcz91_0
                    try clear hcz91_1
                    try clear hcz91_2
                    try clear hcz91_3
                    try clear hcz96_0
                    try clear hcz96_1
                    try clear hcz96_2
                    try clear hcz96_3
                    try clear hfz101_0
                    try clear hfz101_1
                    try clear hfz101_2
                    try clear hfz101_3
                    try clear hfz107_0
                    try clear hfz107_1
                    try clear hfz107_2
                    try clear hfz107_3
                    try clear hfz70_0
                    try clear hfz70_1
                    try clear hfz70_2
                    try clear hfz70_3
                    try clear hfz73_0
                    try clear hfz73_1
                    try clear hfz73_2
                    try clear hfz73_3
                    try clear hfz76_0
                    try clear hfz76_1
                    try clear hfz76_2
                    try clear hfz76_3
                    try clear hfz79_0
                    try clear hfz79_1
                    try clear hfz79_2
                    try clear hfz79_3
                    try clear hfz85_0
                    try clear hfz85_1
                    try clear hfz85_2
                    try clear hfz85_3
                    try clear hfz88_0
                    try clear hfz88_1
                    try clear hfz88_2
                    try clear hfz88_3
                    try clear hfz91_0
                    try clear hfz91_1
                    try clear hfz91_2
                    try clear hfz91_3
                    try clear hfz96_0
                    try clear hfz96_1
                    try clear hfz96_2
                    try clear hfz96_3
                    try clear hx494_0
                    try clear hx519_0
                    try clear hx519_1
                    try clear hx519_2
                    try clear hx519_3
                    try clear hx521_0
                    try clear hx522_0
                    try clear hx523_0
                    try clear hx524_0
                    try clear p2
                    try clear p4
                    try clear p49
                    try clear p494
                    try clear p519
                    try clear p521
                    try clear p522
                    try clear p523
                    try clear p524
                    try clear p6
                    try clear q4
                    try clear q49
                    try clear q494
                    try clear q519
                    try clear q521
                    try clear q522
                    try clear q523
                    try clear q524
                    obtain ⟨kq, x216_104, rfl, HA, HJ104, HO_5, HO_8, HO_146, BK520, HB⟩ := hcut
                    cases kq with
                    | zero => exact absurd HA.out (by simp [laws_FnValuesOfNodes.j4])
                    | succ kj104 =>
                     have H := HA.out
                     clear HA
                     simp only [laws_FnValuesOfNodes.j4] at H
                     by_cases c109 : x216_104 = true
                     ·subst c109
                      have H1 : (if 0 ≤ ((rd_T47 t478 x148_4).f1) then (if ((rd_T47 t478 x148_4).f1) < (t483.length : Int) then ((impl_ApplyOp.f kj104 ((rd_T47 t478 x148_4).f0) (rd t483 ((rd_T47 t478 x148_4).f1)) 0).bind fun bt526 => (if bt526.2 = true then (if 0 ≤ x148_4 then (if x148_4 < (t483.length : Int) then (if bt526.1 = (rd t483 x148_4) then (laws_FnValuesOfNodes.l0 kj104 t478 t479 t480 t483 t491 t478 (t478.length : Int) (wrap64 (x148_4 + 1))) else (some false)) else (none)) else (none)) else (some false))) else (none)) else (none)) = some r := by rw [if_pos rfl] at H; exact H
                      clear H
                      have H := H1
                      clear H1
                      by_cases c110 : 0 ≤ ((rd_T47 t478 x148_4).f1)
                      ·as_aux_lemma =>
                       rw [if_pos c110] at H
                       have c110b0 : decide (0 ≤ ((rd_T47 t478 x148_4).f1)) = true := decide_eq_true c110
                       clear c110
                       by_cases c111 : ((rd_T47 t478 x148_4).f1) < (t483.length : Int)
                       ·as_aux_lemma =>
                        rw [if_pos c111] at H
                        have c111b0 : decide (((rd_T47 t478 x148_4).f1) < (t483.length : Int)) = true := decide_eq_true c111
                        clear c111
                        replace H := Option.bind_eq_some_iff.mp H
                        obtain ⟨⟨t526, t527⟩, A1120, H⟩ := H
                        replace H : (if t527 = true then (if 0 ≤ x148_4 then (if x148_4 < (t483.length : Int) then (if t526 = (rd t483 x148_4) then (laws_FnValuesOfNodes.l0 kj104 t478 t479 t480 t483 t491 t478 (t478.length : Int) (wrap64 (x148_4 + 1))) else (some false)) else (none)) else (none)) else (some false)) = some r := H
                        have A112 := zK A1120
                        clear A1120
                        by_cases c113 : t527 = true
                        ·subst c113
                         have H1 : (if 0 ≤ x148_4 then (if x148_4 < (t483.length : Int) then (if t526 = (rd t483 x148_4) then (laws_FnValuesOfNodes.l0 kj104 t478 t479 t480 t483 t491 t478 (t478.length : Int) (wrap64 (x148_4 + 1))) else (some false)) else (none)) else (none)) = some r := by rw [if_pos rfl] at H; exact H
                         clear H
                         have H := H1
                         clear H1
                         by_cases c114 : 0 ≤ x148_4
                         ·as_aux_lemma =>
                          rw [if_pos c114] at H
                          have c114b0 : decide (0 ≤ x148_4) = true := decide_eq_true c114
                          clear c114
                          by_cases c115 : x148_4 < (t483.length : Int)
                          ·as_aux_lemma =>
                           rw [if_pos c115] at H
                           have c115b0 : decide (x148_4 < (t483.length : Int)) = true := decide_eq_true c115
                           clear c115
                           by_cases c116 : t526 = (rd t483 x148_4)
                           ·as_aux_lemma =>
                            rw [if_pos c116] at H
                            have c116b0 : (t526 == (rd t483 x148_4)) = true := beq_iff_eq.mpr c116
                            have c116b1 : (t526 != (rd t483 x148_4)) = false := bne_eq_false_iff_eq.mpr c116
                            clear c116
                            have H' := zK H
                            clear H
                            try go_wp2
                            have n0_ := zK (Kd.R_drew HO_5.out)
                            have n1_ := zK (Kd.R_drew HO_8.out)
                            have n2_ := zK (Kd.R_drew HO_146.out)
                            have n3_ := zK (zF BK520.out)
                            have n4_ := zK (zC HB.out)
                            clear HO_5
                            clear HO_8
                            clear HO_146
                            clear BK520
                            clear HB
                            have HO_5 := n0_
                            have HO_8 := n1_
                            have HO_146 := n2_
                            have BK520 := n3_
                            have HB := n4_
                            clear n0_ n1_ n2_ n3_ n4_
                            obtain ⟨Ao118, co118, eo118⟩ := Kd.R_slice HO_8.out
                            (first | subst eo118 | (injection eo118 with f1_ f2_ f3_; have f4_ := f1_.symm; have f5_ := f3_.symm; clear f1_ f2_ f3_; subst f4_; subst f5_))
                            have p525 : 0 ≤ (((rd_T47 t478 x148_4).f1) : Int) := zo
                            have q525 : ((rd_T47 t478 x148_4).f1) < (t483.length : Int) := zo
                            obtain ⟨ad525, e525, hx525_0⟩ := Kd.at_int (Kd.R_reads' HO_8.out).2.2 ((rd_T47 t478 x148_4).f1) p525 q525
                            cases e525
                            replace p525 := eq_true p525
                            replace q525 := eq_true q525
                            refine start_ (n := 13) (S := fun w' => w'.cell? ⟨gb520, 0, none⟩ = some (.string ((rd_T47 t478 x148_4).f0)) ∧ w'.cell? ⟨gb520, 1, none⟩ = some (.int .i64 ((rd_T47 t478 x148_4).f1)) ∧ w'.cell? ⟨gb520, 2, none⟩ = some (.int .i64 ((rd_T47 t478 x148_4).f2)) ∧ w'.cell? ⟨gb520, 3, none⟩ = some (.int .i64 ((rd_T47 t478 x148_4).f3)) ∧ w'.cell? (ad525.add (((rd_T47 t478 x148_4).f1)).toNat) = some (.int .i64 (rd t483 ((rd_T47 t478 x148_4).f1)))) (ds := []) #[false, false, false, false, false, false, false, false, false, false, false, false, false] (by kernel_rfl) rfl rfl ⟨(zI BK520.out 0).trans rfl, (zI BK520.out 1).trans rfl, (zI BK520.out 2).trans rfl, (zI BK520.out 3).trans rfl, hx525_0⟩ (fun hHeld => ?_); refine with_tabW laws_FnValuesOfNodes.tab36 laws_FnValuesOfNodes.bits36 (fun HT_ HW_ => ?_)
                            generalize wc.drew = w117 at HO_5 HO_8 HO_146 BK520 HB hx525_0 hHeld ⊢
                            refine pure_ (i := 0) (N := some 220) (v := ?_) (a' := ?_) #[true, false, false, false, false, false, false, false, false, false, false, false, false] rfl rfl (any_of HT_.out (by kernel_rfl)) (fun _ _ _ h => h) (Or.inl ⟨by rfl, ?_⟩) ?_ ?_
                            rotate_left
                            ·intro w'
                             go_simp
                             with_reducible rfl
                            rotate_left
                            ·simp only [Act.put, z1, z2, z3, i64_w, i32_w]
                             rfl
                            refine pure_ (i := 2) (N := some 222) (v := ?_) (a' := ?_) #[true, false, true, false, false, false, false, false, false, false, false, false, false] rfl rfl (any_of HT_.out (by kernel_rfl)) (fun _ _ _ h => h) (Or.inl ⟨by rfl, ?_⟩) ?_ ?_
                            rotate_left
                            ·intro w'
                             go_simp
                             with_reducible rfl
                            rotate_left
                            ·simp only [Act.put, z1, z2, z3, i64_w, i32_w]
                             rfl
                            refine pure_ (i := 3) (N := some 223) (v := ?_) (a' := ?_) #[true, false, true, true, false, false, false, false, false, false, false, false, false] rfl rfl (any_of HT_.out (by kernel_rfl)) (fun _ _ _ h => h) (Or.inl ⟨by rfl, ?_⟩) ?_ ?_
                            rotate_left
                            ·intro w'
                             go_simp
                             with_reducible rfl
                            rotate_left
                            ·simp only [Act.put, z1, z2, z3, i64_w, i32_w]
                             rfl
                            refine take_ (i := 1) (N := some 221) (v := ?_) (a' := ?_) #[true, true, true, true, false, false, false, false, false, false, false, false, false] rfl rfl (take_ofW HT_.out HW_.out (by kernel_rfl)) (fun _ _ _ h => h) (Or.inl ⟨by rfl, ?_⟩) hHeld ?_ ?_
                            rotate_left
                            ·rintro w' ⟨s0, s1, s2, s3, s4⟩
                             go_simp
                             with_reducible rfl
                            rotate_left
                            ·simp only [Act.put, z1, z2, z3, i64_w, i32_w]
                             rfl
                            refine take_ (i := 4) (N := some 224) (v := ?_) (a' := ?_) #[true, true, true, true, true, false, false, false, false, false, false, false, false] rfl rfl (take_ofW HT_.out HW_.out (by kernel_rfl)) (fun _ _ _ h => h) (Or.inl ⟨by rfl, ?_⟩) hHeld ?_ ?_
                            rotate_left
                            ·rintro w' ⟨s0, s1, s2, s3, s4⟩
                             go_simp
                             with_reducible rfl
                            rotate_left
                            ·simp only [Act.put, z1, z2, z3, i64_w, i32_w]
                             rfl
                            refine pure_ (i := 5) (N := some 225) (v := ?_) (a' := ?_) #[true, true, true, true, true, true, false, false, false, false, false, false, false] rfl rfl (any_of HT_.out (by kernel_rfl)) (fun _ _ _ h => h) (Or.inl ⟨by rfl, ?_⟩) ?_ ?_
                            rotate_left
                            ·intro w'
                             go_simp
                             with_reducible rfl
                            rotate_left
                            ·simp only [Act.put, z1, z2, z3, i64_w, i32_w]
                             rfl
                            refine take_ (i := 6) (N := some 226) (v := ?_) (a' := ?_) #[true, true, true, true, true, true, true, false, false, false, false, false, false] rfl rfl (take_ofW HT_.out HW_.out (by kernel_rfl)) (fun _ _ _ h => h) (Or.inl ⟨by rfl, ?_⟩) hHeld ?_ ?_
                            rotate_left
                            ·rintro w' ⟨s0, s1, s2, s3, s4⟩
                             go_simp
                             with_reducible rfl
                            rotate_left
                            ·simp only [Act.put, z1, z2, z3, i64_w, i32_w]
                             rfl
                            refine one_ (i := 7) (N := some 227) #[true, true, true, true, true, true, true, true, false, false, false, false, false] rfl rfl (one_of HT_.out (by kernel_rfl)) (by decide) (fun K hK => ?_)
                            refine goes_ Try.func28 (by kernel_rfl) rfl #[.string ((rd_T47 t478 x148_4).f0), .int .i64 (rd t483 ((rd_T47 t478 x148_4).f1)), .int .i64 0] (by rfl) rfl rfl (by (try simp only [z6, z7, z8]); first | done | rfl | (simp only [z4, z5]; rfl)) ?_
                            with_reducible refine (impl_ApplyOp.calls kj104 ((rd_T47 t478 x148_4).f0) (rd t483 ((rd_T47 t478 x148_4).f1)) 0 t526 true _ A112.out).mono ?_
                            rintro e w119 ⟨rfl, hb⟩
                            have HS4_ := (hb.cell (zW _ _ (hHeld.2.2.2.2))).trans (hHeld.2.2.2.2)
                            refine ⟨_, rfl, ?_⟩
                            have n0_ := zK (Kd.R_below (by (with_reducible repeat (first | apply Kd.R_alloc | apply Kd.R_drewN | apply Kd.R_drew)); exact HO_5.out) hb)
                            have n1_ := zK (Kd.R_below (by (with_reducible repeat (first | apply Kd.R_alloc | apply Kd.R_drewN | apply Kd.R_drew)); exact HO_8.out) hb)
                            have n2_ := zK (Kd.R_below (by (with_reducible repeat (first | apply Kd.R_alloc | apply Kd.R_drewN | apply Kd.R_drew)); exact HO_146.out) hb)
                            have n3_ := zK (zM (g := gb520) (o := .cells #[.string ((rd_T47 t478 x148_4).f0), .int .i64 ((rd_T47 t478 x148_4).f1), .int .i64 ((rd_T47 t478 x148_4).f2), .int .i64 ((rd_T47 t478 x148_4).f3)] 47 (0, 0)) (by (with_reducible repeat (first | refine zE ?_ _ | refine zF ?_ | refine zG ?_ _)); exact BK520.out) hb)
                            have n4_ := zK (zL (by repeat (first | (with_reducible first | exact HB.out | apply zA | apply zB | apply zC | refine zD ?_ GE520.out) | exact HB.out)) hb)
                            clear HO_5
                            clear HO_8
                            clear HO_146
                            clear BK520
                            clear HB
                            have HO_5 := n0_
                            have HO_8 := n1_
                            have HO_146 := n2_
                            have BK520 := n3_
                            have HB := n4_
                            clear n0_ n1_ n2_ n3_ n4_
                            (try clear hb)
                            (try clear hb2)
                            (try clear hk)
                            (try clear hi)
                            refine hK.out _ _ ⟨(zI BK520.out 0).trans rfl, (zI BK520.out 1).trans rfl, (zI BK520.out 2).trans rfl, (zI BK520.out 3).trans rfl, HS4_⟩ (fun hHeld => ?_)
                            clear hK K
                            refine norm_ (a' := ?_) ?_ ?_
                            rotate_left
                            ·show Act.put _ (some 227) _ = _
                             simp only [Act.put, z1, z2, z3, i64_w, i32_w]
                             rfl
                            refine pure_ (i := 8) (N := some 219) (v := ?_) (a' := ?_) #[true, true, true, true, true, true, true, true, true, false, false, false, false] rfl rfl (any_of HT_.out (by kernel_rfl)) (fun _ _ _ h => h) (Or.inl ⟨by rfl, ?_⟩) ?_ ?_
                            rotate_left
                            ·intro w'
                             go_simp
                             with_reducible rfl
                            rotate_left
                            ·simp only [Act.put, z1, z2, z3, i64_w, i32_w]
                             rfl
                            refine pure_ (i := 9) (N := some 228) (v := ?_) (a' := ?_) #[true, true, true, true, true, true, true, true, true, true, false, false, false] rfl rfl (any_of HT_.out (by kernel_rfl)) (fun _ _ _ h => h) (Or.inl ⟨by rfl, ?_⟩) ?_ ?_
                            rotate_left
                            ·intro w'
                             go_simp
                             with_reducible rfl
                            rotate_left
                            ·simp only [Act.put, z1, z2, z3, i64_w, i32_w]
                             rfl
                            refine pure_ (i := 10) (N := some 229) (v := ?_) (a' := ?_) #[true, true, true, true, true, true, true, true, true, true, true, false, false] rfl rfl (any_of HT_.out (by kernel_rfl)) (fun _ _ _ h => h) (Or.inl ⟨by rfl, ?_⟩) ?_ ?_
                            rotate_left
                            ·intro w'
                             go_simp
                             with_reducible rfl
                            rotate_left
                            ·simp only [Act.put, z1, z2, z3, i64_w, i32_w]
                             rfl
                            refine pure_ (i := 11) (N := some 28) (v := ?_) (a' := ?_) #[true, true, true, true, true, true, true, true, true, true, true, true, false] rfl rfl (any_of HT_.out (by kernel_rfl)) (fun _ _ _ h => h) (Or.inl ⟨by rfl, ?_⟩) ?_ ?_
                            rotate_left
                            ·intro w'
                             go_simp
                             with_reducible rfl
                            rotate_left
                            ·simp only [Act.put, z1, z2, z3, i64_w, i32_w]
                             rfl
                            refine pure_ (i := 12) (N := some 29) (v := ?_) (a' := ?_) #[true, true, true, true, true, true, true, true, true, true, true, true, true] rfl rfl (any_of HT_.out (by kernel_rfl)) (fun _ _ _ h => h) (Or.inl ⟨by rfl, ?_⟩) ?_ ?_
                            rotate_left
                            ·intro w'
                             go_simp
                             with_reducible rfl
                            rotate_left
                            ·simp only [Act.put, z1, z2, z3, i64_w, i32_w]
                             rfl
                            refine done_ (done_of HT_.out (by kernel_rfl)) ?_
                            have p528 : 0 ≤ (x148_4 : Int) := zo
                            have q528 : x148_4 < (t483.length : Int) := zo
                            obtain ⟨ad528, e528, hx528_0⟩ := Kd.at_int (Kd.R_reads' HO_8.out).2.2 x148_4 p528 q528
                            obtain rfl : ad525 = ad528 := (by injection e528)
                            replace p528 := eq_true p528
                            replace q528 := eq_true q528
                            try go_wp2
                            go_roundg kj104
                            case measure => have := HJ8.out; have := HJ34.out; have := HJ52.out; have := HK4.out; have := HJ104.out; omega
                            case rel => exact ⟨(wrap64 (x148_4 + 1)), (by first | rfl | (simp; done) | (simp [*]; done)), H', ⟨by have := HJ8.out; have := HJ34.out; have := HJ52.out; have := HK4.out; have := HJ104.out; omega⟩, ⟨by (with_reducible repeat (first | apply Kd.R_alloc | apply Kd.R_drewN | apply Kd.R_drew)); exact Kd.R_mono HO_5.out (fun _ hk => trivial)⟩, ⟨by (with_reducible repeat (first | apply Kd.R_alloc | apply Kd.R_drewN | apply Kd.R_drew)); exact HO_8.out⟩, ⟨by (with_reducible repeat (first | apply Kd.R_alloc | apply Kd.R_drewN | apply Kd.R_drew)); exact Kd.R_mono HO_146.out (fun _ hk => trivial)⟩, ⟨by repeat (first | (with_reducible first | exact HB.out | apply zA | apply zB | apply zC | refine zD ?_ GE520.out) | exact HB.out)⟩⟩
                           ·as_aux_lemma =>
                            rw [if_neg c116] at H
                            have c116b0 : (t526 == (rd t483 x148_4)) = false := beq_eq_false_iff_ne.mpr c116
                            have c116b1 : (t526 != (rd t483 x148_4)) = true := bne_iff_ne.mpr c116
                            exact absurd ((Option.some.inj H).trans hr) (by decide)
                          ·as_aux_lemma =>
                           rw [if_neg c115] at H
                           exact absurd H (by simp)
                         ·as_aux_lemma =>
                          rw [if_neg c114] at H
                          exact absurd H (by simp)
                        ·replace c113 := Bool.eq_false_iff.mpr c113
                         subst c113
                         have H1 : (some false) = some r := by rw [if_neg (show ¬ (false = true) by decide)] at H; exact H
                         clear H
                         have H := H1
                         clear H1
                         exact absurd ((Option.some.inj H).trans hr) (by decide)
                       ·as_aux_lemma =>
                        rw [if_neg c111] at H
                        exact absurd H (by simp)
                      ·as_aux_lemma =>
                       rw [if_neg c110] at H
                       exact absurd H (by simp)
                     ·replace c109 := Bool.eq_false_iff.mpr c109
                      subst c109
                      have H1 : (if 0 ≤ ((rd_T47 t478 x148_4).f1) then (if ((rd_T47 t478 x148_4).f1) < (t483.length : Int) then (if 0 ≤ ((rd_T47 t478 x148_4).f2) then (if ((rd_T47 t478 x148_4).f2) < (t483.length : Int) then ((impl_ApplyOp.f kj104 ((rd_T47 t478 x148_4).f0) (rd t483 ((rd_T47 t478 x148_4).f1)) (rd t483 ((rd_T47 t478 x148_4).f2))).bind fun bt531 => (if bt531.2 = true then (if 0 ≤ x148_4 then (if x148_4 < (t483.length : Int) then (if bt531.1 = (rd t483 x148_4) then (laws_FnValuesOfNodes.l0 kj104 t478 t479 t480 t483 t491 t478 (t478.length : Int) (wrap64 (x148_4 + 1))) else (some false)) else (none)) else (none)) else (some false))) else (none)) else (none)) else (none)) else (none)) = some r := by rw [if_neg (show ¬ (false = true) by decide)] at H; exact H
                      clear H
                      have H := H1
                      clear H1
                      by_cases c126 : 0 ≤ ((rd_T47 t478 x148_4).f1)
                      ·as_aux_lemma =>
                       rw [if_pos c126] at H
                       have c126b0 : decide (0 ≤ ((rd_T47 t478 x148_4).f1)) = true := decide_eq_true c126
                       clear c126
                       by_cases c127 : ((rd_T47 t478 x148_4).f1) < (t483.length : Int)
                       ·as_aux_lemma =>
                        rw [if_pos c127] at H
                        have c127b0 : decide (((rd_T47 t478 x148_4).f1) < (t483.length : Int)) = true := decide_eq_true c127
                        clear c127
                        by_cases c128 : 0 ≤ ((rd_T47 t478 x148_4).f2)
                        ·as_aux_lemma =>
                         rw [if_pos c128] at H
                         have c128b0 : decide (0 ≤ ((rd_T47 t478 x148_4).f2)) = true := decide_eq_true c128
                         clear c128
                         by_cases c129 : ((rd_T47 t478 x148_4).f2) < (t483.length : Int)
                         ·as_aux_lemma =>
                          rw [if_pos c129] at H
                          have c129b0 : decide (((rd_T47 t478 x148_4).f2) < (t483.length : Int)) = true := decide_eq_true c129
                          clear c129
                          replace H := Option.bind_eq_some_iff.mp H
                          obtain ⟨⟨t531, t532⟩, A1300, H⟩ := H
                          replace H : (if t532 = true then (if 0 ≤ x148_4 then (if x148_4 < (t483.length : Int) then (if t531 = (rd t483 x148_4) then (laws_FnValuesOfNodes.l0 kj104 t478 t479 t480 t483 t491 t478 (t478.length : Int) (wrap64 (x148_4 + 1))) else (some false)) else (none)) else (none)) else (some false)) = some r := H
                          have A130 := zK A1300
                          clear A1300
                          by_cases c131 : t532 = true
                          ·subst c131
                           have H1 : (if 0 ≤ x148_4 then (if x148_4 < (t483.length : Int) then (if t531 = (rd t483 x148_4) then (laws_FnValuesOfNodes.l0 kj104 t478 t479 t480 t483 t491 t478 (t478.length : Int) (wrap64 (x148_4 + 1))) else (some false)) else (none)) else (none)) = some r := by rw [if_pos rfl] at H; exact H
                           clear H
                           have H := H1
                           clear H1
                           by_cases c132 : 0 ≤ x148_4
                           ·as_aux_lemma =>
                            rw [if_pos c132] at H
                            have c132b0 : decide (0 ≤ x148_4) = true := decide_eq_true c132
                            clear c132
                            by_cases c133 : x148_4 < (t483.length : Int)
                            ·as_aux_lemma =>
                             rw [if_pos c133] at H
                             have c133b0 : decide (x148_4 < (t483.length : Int)) = true := decide_eq_true c133
                             clear c133
                             by_cases c134 : t531 = (rd t483 x148_4)
                             ·as_aux_lemma =>
                              rw [if_pos c134] at H
                              have c134b0 : (t531 == (rd t483 x148_4)) = true := beq_iff_eq.mpr c134
                              have c134b1 : (t531 != (rd t483 x148_4)) = false := bne_eq_false_iff_eq.mpr c134
                              clear c134
                              have H' := zK H
                              clear H
                              try go_wp2
                              have n0_ := zK (Kd.R_drew HO_5.out)
                              have n1_ := zK (Kd.R_drew HO_8.out)
                              have n2_ := zK (Kd.R_drew HO_146.out)
                              have n3_ := zK (zF BK520.out)
                              have n4_ := zK (zC HB.out)
                              clear HO_5
                              clear HO_8
                              clear HO_146
                              clear BK520
                              clear HB
                              have HO_5 := n0_
                              have HO_8 := n1_
                              have HO_146 := n2_
                              have BK520 := n3_
                              have HB := n4_
                              clear n0_ n1_ n2_ n3_ n4_
                              obtain ⟨Ao136, co136, eo136⟩ := Kd.R_slice HO_8.out
                              (first | subst eo136 | (injection eo136 with f1_ f2_ f3_; have f4_ := f1_.symm; have f5_ := f3_.symm; clear f1_ f2_ f3_; subst f4_; subst f5_))
                              have p529 : 0 ≤ (((rd_T47 t478 x148_4).f1) : Int) := zo
                              have q529 : ((rd_T47 t478 x148_4).f1) < (t483.length : Int) := zo
                              obtain ⟨ad529, e529, hx529_0⟩ := Kd.at_int (Kd.R_reads' HO_8.out).2.2 ((rd_T47 t478 x148_4).f1) p529 q529
                              cases e529
                              replace p529 := eq_true p529
                              replace q529 := eq_true q529
                              have p530 : 0 ≤ (((rd_T47 t478 x148_4).f2) : Int) := zo
                              have q530 : ((rd_T47 t478 x148_4).f2) < (t483.length : Int) := zo
                              obtain ⟨ad530, e530, hx530_0⟩ := Kd.at_int (Kd.R_reads' HO_8.out).2.2 ((rd_T47 t478 x148_4).f2) p530 q530
                              obtain rfl : ad529 = ad530 := (by injection e530)
                              replace p530 := eq_true p530
                              replace q530 := eq_true q530
                              refine start_ (n := 18) (S := fun w' => w'.cell? ⟨gb520, 0, none⟩ = some (.string ((rd_T47 t478 x148_4).f0)) ∧ w'.cell? ⟨gb520, 1, none⟩ = some (.int .i64 ((rd_T47 t478 x148_4).f1)) ∧ w'.cell? ⟨gb520, 2, none⟩ = some (.int .i64 ((rd_T47 t478 x148_4).f2)) ∧ w'.cell? ⟨gb520, 3, none⟩ = some (.int .i64 ((rd_T47 t478 x148_4).f3)) ∧ w'.cell? (ad529.add (((rd_T47 t478 x148_4).f1)).toNat) = some (.int .i64 (rd t483 ((rd_T47 t478 x148_4).f1))) ∧ w'.cell? (ad529.add (((rd_T47 t478 x148_4).f2)).toNat) = some (.int .i64 (rd t483 ((rd_T47 t478 x148_4).f2)))) (ds := []) #[false, false, false, false, false, false, false, false, false, false, false, false, false, false, false, false, false, false] (by kernel_rfl) rfl rfl ⟨(zI BK520.out 0).trans rfl, (zI BK520.out 1).trans rfl, (zI BK520.out 2).trans rfl, (zI BK520.out 3).trans rfl, hx529_0, hx530_0⟩ (fun hHeld => ?_); refine with_tabW laws_FnValuesOfNodes.tab25 laws_FnValuesOfNodes.bits25 (fun HT_ HW_ => ?_)
                              generalize wc.drew = w135 at HO_5 HO_8 HO_146 BK520 HB hx529_0 hx530_0 hHeld ⊢
                              refine pure_ (i := 0) (N := some 156) (v := ?_) (a' := ?_) #[true, false, false, false, false, false, false, false, false, false, false, false, false, false, false, false, false, false] rfl rfl (any_of HT_.out (by kernel_rfl)) (fun _ _ _ h => h) (Or.inl ⟨by rfl, ?_⟩) ?_ ?_
                              rotate_left
                              ·intro w'
                               go_simp
                               with_reducible rfl
                              rotate_left
                              ·simp only [Act.put, z1, z2, z3, i64_w, i32_w]
                               rfl
                              refine pure_ (i := 2) (N := some 158) (v := ?_) (a' := ?_) #[true, false, true, false, false, false, false, false, false, false, false, false, false, false, false, false, false, false] rfl rfl (any_of HT_.out (by kernel_rfl)) (fun _ _ _ h => h) (Or.inl ⟨by rfl, ?_⟩) ?_ ?_
                              rotate_left
                              ·intro w'
                               go_simp
                               with_reducible rfl
                              rotate_left
                              ·simp only [Act.put, z1, z2, z3, i64_w, i32_w]
                               rfl
                              refine pure_ (i := 3) (N := some 159) (v := ?_) (a' := ?_) #[true, false, true, true, false, false, false, false, false, false, false, false, false, false, false, false, false, false] rfl rfl (any_of HT_.out (by kernel_rfl)) (fun _ _ _ h => h) (Or.inl ⟨by rfl, ?_⟩) ?_ ?_
                              rotate_left
                              ·intro w'
                               go_simp
                               with_reducible rfl
                              rotate_left
                              ·simp only [Act.put, z1, z2, z3, i64_w, i32_w]
                               rfl
                              refine pure_ (i := 7) (N := some 163) (v := ?_) (a' := ?_) #[true, false, true, true, false, false, false, true, false, false, false, false, false, false, false, false, false, false] rfl rfl (any_of HT_.out (by kernel_rfl)) (fun _ _ _ h => h) (Or.inl ⟨by rfl, ?_⟩) ?_ ?_
                              rotate_left
                              ·intro w'
                               go_simp
                               with_reducible rfl
                              rotate_left
                              ·simp only [Act.put, z1, z2, z3, i64_w, i32_w]
                               rfl
                              refine pure_ (i := 8) (N := some 164) (v := ?_) (a' := ?_) #[true, false, true, true, false, false, false, true, true, false, false, false, false, false, false, false, false, false] rfl rfl (any_of HT_.out (by kernel_rfl)) (fun _ _ _ h => h) (Or.inl ⟨by rfl, ?_⟩) ?_ ?_
                              rotate_left
                              ·intro w'
                               go_simp
                               with_reducible rfl
                              rotate_left
                              ·simp only [Act.put, z1, z2, z3, i64_w, i32_w]
                               rfl
                              refine take_ (i := 1) (N := some 157) (v := ?_) (a' := ?_) #[true, true, true, true, false, false, false, true, true, false, false, false, false, false, false, false, false, false] rfl rfl (take_ofW HT_.out HW_.out (by kernel_rfl)) (fun _ _ _ h => h) (Or.inl ⟨by rfl, ?_⟩) hHeld ?_ ?_
                              rotate_left
                              ·rintro w' ⟨s0, s1, s2, s3, s4, s5⟩
                               go_simp
                               with_reducible rfl
                              rotate_left
                              ·simp only [Act.put, z1, z2, z3, i64_w, i32_w]
                               rfl
                              refine take_ (i := 4) (N := some 160) (v := ?_) (a' := ?_) #[true, true, true, true, true, false, false, true, true, false, false, false, false, false, false, false, false, false] rfl rfl (take_ofW HT_.out HW_.out (by kernel_rfl)) (fun _ _ _ h => h) (Or.inl ⟨by rfl, ?_⟩) hHeld ?_ ?_
                              rotate_left
                              ·rintro w' ⟨s0, s1, s2, s3, s4, s5⟩
                               go_simp
                               with_reducible rfl
                              rotate_left
                              ·simp only [Act.put, z1, z2, z3, i64_w, i32_w]
                               rfl
                              refine pure_ (i := 5) (N := some 161) (v := ?_) (a' := ?_) #[true, true, true, true, true, true, false, true, true, false, false, false, false, false, false, false, false, false] rfl rfl (any_of HT_.out (by kernel_rfl)) (fun _ _ _ h => h) (Or.inl ⟨by rfl, ?_⟩) ?_ ?_
                              rotate_left
                              ·intro w'
                               go_simp
                               with_reducible rfl
                              rotate_left
                              ·simp only [Act.put, z1, z2, z3, i64_w, i32_w]
                               rfl
                              refine take_ (i := 6) (N := some 162) (v := ?_) (a' := ?_) #[true, true, true, true, true, true, true, true, true, false, false, false, false, false, false, false, false, false] rfl rfl (take_ofW HT_.out HW_.out (by kernel_rfl)) (fun _ _ _ h => h) (Or.inl ⟨by rfl, ?_⟩) hHeld ?_ ?_
                              rotate_left
                              ·rintro w' ⟨s0, s1, s2, s3, s4, s5⟩
                               go_simp
                               with_reducible rfl
                              rotate_left
                              ·simp only [Act.put, z1, z2, z3, i64_w, i32_w]
                               rfl
                              refine take_ (i := 9) (N := some 165) (v := ?_) (a' := ?_) #[true, true, true, true, true, true, true, true, true, true, false, false, false, false, false, false, false, false] rfl rfl (take_ofW HT_.out HW_.out (by kernel_rfl)) (fun _ _ _ h => h) (Or.inl ⟨by rfl, ?_⟩) hHeld ?_ ?_
                              rotate_left
                              ·rintro w' ⟨s0, s1, s2, s3, s4, s5⟩
                               go_simp
                               with_reducible rfl
                              rotate_left
                              ·simp only [Act.put, z1, z2, z3, i64_w, i32_w]
                               rfl
                              refine pure_ (i := 10) (N := some 166) (v := ?_) (a' := ?_) #[true, true, true, true, true, true, true, true, true, true, true, false, false, false, false, false, false, false] rfl rfl (any_of HT_.out (by kernel_rfl)) (fun _ _ _ h => h) (Or.inl ⟨by rfl, ?_⟩) ?_ ?_
                              rotate_left
                              ·intro w'
                               go_simp
                               with_reducible rfl
                              rotate_left
                              ·simp only [Act.put, z1, z2, z3, i64_w, i32_w]
                               rfl
                              refine take_ (i := 11) (N := some 167) (v := ?_) (a' := ?_) #[true, true, true, true, true, true, true, true, true, true, true, true, false, false, false, false, false, false] rfl rfl (take_ofW HT_.out HW_.out (by kernel_rfl)) (fun _ _ _ h => h) (Or.inl ⟨by rfl, ?_⟩) hHeld ?_ ?_
                              rotate_left
                              ·rintro w' ⟨s0, s1, s2, s3, s4, s5⟩
                               go_simp
                               with_reducible rfl
                              rotate_left
                              ·simp only [Act.put, z1, z2, z3, i64_w, i32_w]
                               rfl
                              refine one_ (i := 12) (N := some 168) #[true, true, true, true, true, true, true, true, true, true, true, true, true, false, false, false, false, false] rfl rfl (one_of HT_.out (by kernel_rfl)) (by decide) (fun K hK => ?_)
                              refine goes_ Try.func28 (by kernel_rfl) rfl #[.string ((rd_T47 t478 x148_4).f0), .int .i64 (rd t483 ((rd_T47 t478 x148_4).f1)), .int .i64 (rd t483 ((rd_T47 t478 x148_4).f2))] (by rfl) rfl rfl (by (try simp only [z6, z7, z8]); first | done | rfl | (simp only [z4, z5]; rfl)) ?_
                              with_reducible refine (impl_ApplyOp.calls kj104 ((rd_T47 t478 x148_4).f0) (rd t483 ((rd_T47 t478 x148_4).f1)) (rd t483 ((rd_T47 t478 x148_4).f2)) t531 true _ A130.out).mono ?_
                              rintro e w137 ⟨rfl, hb⟩
                              have HS4_ := (hb.cell (zW _ _ (hHeld.2.2.2.2.1))).trans (hHeld.2.2.2.2.1)
                              have HS5_ := (hb.cell (zW _ _ (hHeld.2.2.2.2.2))).trans (hHeld.2.2.2.2.2)
                              refine ⟨_, rfl, ?_⟩
                              have n0_ := zK (Kd.R_below (by (with_reducible repeat (first | apply Kd.R_alloc | apply Kd.R_drewN | apply Kd.R_drew)); exact HO_5.out) hb)
                              have n1_ := zK (Kd.R_below (by (with_reducible repeat (first | apply Kd.R_alloc | apply Kd.R_drewN | apply Kd.R_drew)); exact HO_8.out) hb)
                              have n2_ := zK (Kd.R_below (by (with_reducible repeat (first | apply Kd.R_alloc | apply Kd.R_drewN | apply Kd.R_drew)); exact HO_146.out) hb)
                              have n3_ := zK (zM (g := gb520) (o := .cells #[.string ((rd_T47 t478 x148_4).f0), .int .i64 ((rd_T47 t478 x148_4).f1), .int .i64 ((rd_T47 t478 x148_4).f2), .int .i64 ((rd_T47 t478 x148_4).f3)] 47 (0, 0)) (by (with_reducible repeat (first | refine zE ?_ _ | refine zF ?_ | refine zG ?_ _)); exact BK520.out) hb)
                              have n4_ := zK (zL (by repeat (first | (with_reducible first | exact HB.out | apply zA | apply zB | apply zC | refine zD ?_ GE520.out) | exact HB.out)) hb)
                              clear HO_5
                              clear HO_8
                              clear HO_146
                              clear BK520
                              clear HB
                              have HO_5 := n0_
                              have HO_8 := n1_
                              have HO_146 := n2_
                              have BK520 := n3_
                              have HB := n4_
                              clear n0_ n1_ n2_ n3_ n4_
                              (try clear hb)
                              (try clear hb2)
                              (try clear hk)
                              (try clear hi)
                              refine hK.out _ _ ⟨(zI BK520.out 0).trans rfl, (zI BK520.out 1).trans rfl, (zI BK520.out 2).trans rfl, (zI BK520.out 3).trans rfl, HS4_, HS5_⟩ (fun hHeld => ?_)
                              clear hK K
                              refine norm_ (a' := ?_) ?_ ?_
                              rotate_left
                              ·show Act.put _ (some 168) _ = _
                               simp only [Act.put, z1, z2, z3, i64_w, i32_w]
                               rfl
                              refine pure_ (i := 13) (N := some 155) (v := ?_) (a' := ?_) #[true, true, true, true, true, true, true, true, true, true, true, true, true, true, false, false, false, false] rfl rfl (any_of HT_.out (by kernel_rfl)) (fun _ _ _ h => h) (Or.inl ⟨by rfl, ?_⟩) ?_ ?_
                              rotate_left
                              ·intro w'
                               go_simp
                               with_reducible rfl
                              rotate_left
                              ·simp only [Act.put, z1, z2, z3, i64_w, i32_w]
                               rfl
                              refine pure_ (i := 14) (N := some 169) (v := ?_) (a' := ?_) #[true, true, true, true, true, true, true, true, true, true, true, true, true, true, true, false, false, false] rfl rfl (any_of HT_.out (by kernel_rfl)) (fun _ _ _ h => h) (Or.inl ⟨by rfl, ?_⟩) ?_ ?_
                              rotate_left
                              ·intro w'
                               go_simp
                               with_reducible rfl
                              rotate_left
                              ·simp only [Act.put, z1, z2, z3, i64_w, i32_w]
                               rfl
                              refine pure_ (i := 15) (N := some 170) (v := ?_) (a' := ?_) #[true, true, true, true, true, true, true, true, true, true, true, true, true, true, true, true, false, false] rfl rfl (any_of HT_.out (by kernel_rfl)) (fun _ _ _ h => h) (Or.inl ⟨by rfl, ?_⟩) ?_ ?_
                              rotate_left
                              ·intro w'
                               go_simp
                               with_reducible rfl
                              rotate_left
                              ·simp only [Act.put, z1, z2, z3, i64_w, i32_w]
                               rfl
                              refine pure_ (i := 16) (N := some 30) (v := ?_) (a' := ?_) #[true, true, true, true, true, true, true, true, true, true, true, true, true, true, true, true, true, false] rfl rfl (any_of HT_.out (by kernel_rfl)) (fun _ _ _ h => h) (Or.inl ⟨by rfl, ?_⟩) ?_ ?_
                              rotate_left
                              ·intro w'
                               go_simp
                               with_reducible rfl
                              rotate_left
                              ·simp only [Act.put, z1, z2, z3, i64_w, i32_w]
                               rfl
                              refine pure_ (i := 17) (N := some 31) (v := ?_) (a' := ?_) #[true, true, true, true, true, true, true, true, true, true, true, true, true, true, true, true, true, true] rfl rfl (any_of HT_.out (by kernel_rfl)) (fun _ _ _ h => h) (Or.inl ⟨by rfl, ?_⟩) ?_ ?_
                              rotate_left
                              ·intro w'
                               go_simp
                               with_reducible rfl
                              rotate_left
                              ·simp only [Act.put, z1, z2, z3, i64_w, i32_w]
                               rfl
                              refine done_ (done_of HT_.out (by kernel_rfl)) ?_
                              have p533 : 0 ≤ (x148_4 : Int) := zo
                              have q533 : x148_4 < (t483.length : Int) := zo
                              obtain ⟨ad533, e533, hx533_0⟩ := Kd.at_int (Kd.R_reads' HO_8.out).2.2 x148_4 p533 q533
                              obtain rfl : ad529 = ad533 := (by injection e533)
                              replace p533 := eq_true p533
                              replace q533 := eq_true q533
                              try go_wp2
                              go_roundg kj104
                              case measure => have := HJ8.out; have := HJ34.out; have := HJ52.out; have := HK4.out; have := HJ104.out; omega
                              case rel => exact ⟨(wrap64 (x148_4 + 1)), (by first | rfl | (simp; done) | (simp [*]; done)), H', ⟨by have := HJ8.out; have := HJ34.out; have := HJ52.out; have := HK4.out; have := HJ104.out; omega⟩, ⟨by (with_reducible repeat (first | apply Kd.R_alloc | apply Kd.R_drewN | apply Kd.R_drew)); exact Kd.R_mono HO_5.out (fun _ hk => trivial)⟩, ⟨by (with_reducible repeat (first | apply Kd.R_alloc | apply Kd.R_drewN | apply Kd.R_drew)); exact HO_8.out⟩, ⟨by (with_reducible repeat (first | apply Kd.R_alloc | apply Kd.R_drewN | apply Kd.R_drew)); exact Kd.R_mono HO_146.out (fun _ hk => trivial)⟩, ⟨by repeat (first | (with_reducible first | exact HB.out | apply zA | apply zB | apply zC | refine zD ?_ GE520.out) | exact HB.out)⟩⟩
                             ·as_aux_lemma =>
                              rw [if_neg c134] at H
                              have c134b0 : (t531 == (rd t483 x148_4)) = false := beq_eq_false_iff_ne.mpr c134
                              have c134b1 : (t531 != (rd t483 x148_4)) = true := bne_iff_ne.mpr c134
                              exact absurd ((Option.some.inj H).trans hr) (by decide)
                            ·as_aux_lemma =>
                             rw [if_neg c133] at H
                             exact absurd H (by simp)
                           ·as_aux_lemma =>
                            rw [if_neg c132] at H
                            exact absurd H (by simp)
                          ·replace c131 := Bool.eq_false_iff.mpr c131
                           subst c131
                           have H1 : (some false) = some r := by rw [if_neg (show ¬ (false = true) by decide)] at H; exact H
                           clear H
                           have H := H1
                           clear H1
                           exact absurd ((Option.some.inj H).trans hr) (by decide)
                         ·as_aux_lemma =>
                          rw [if_neg c129] at H
                          exact absurd H (by simp)
                        ·as_aux_lemma =>
                         rw [if_neg c128] at H
                         exact absurd H (by simp)
                       ·as_aux_lemma =>
                        rw [if_neg c127] at H
                        exact absurd H (by simp)
                      ·as_aux_lemma =>
                       rw [if_neg c126] at H
                       exact absurd H (by simp)
                ·as_aux_lemma =>
                 rw [if_neg c62] at H
                 exact absurd H (by simp)
               ·as_aux_lemma =>
                rw [if_neg c61] at H
                exact absurd H (by simp)
              ·as_aux_lemma =>
               rw [if_neg c60] at H
               have c60b0 : decide (x148_4 < (t478.length : Int)) = false := decide_eq_false c60
               clear c60
               replace H := Option.bind_eq_some_iff.mp H
               obtain ⟨t515, A1440, H⟩ := H
               replace H : (if 0 ≤ (wrap64 ((wrap64 (64 * t479)) + t480)) then (if (wrap64 ((wrap64 (64 * t479)) + t480)) < (t515.length : Int) then (some ((rd t515 (wrap64 ((wrap64 (64 * t479)) + t480))) == t491)) else (none)) else (none)) = some r := H
               have A144 := zK A1440
               clear A1440
               obtain ⟨ji145, hji145⟩ : ∃ j_ : Int, (wrap64 ((wrap64 (64 * t479)) + t480)) = j_ := ⟨_, rfl⟩
               replace H : (if 0 ≤ (ji145) then (if (ji145) < (t515.length : Int) then (some ((rd t515 (ji145)) == t491)) else (none)) else (none)) = some r := by first | (rw [hji145] at H; exact H) | (simp only [hji145] at H ⊢; exact H)
               (try rw [hji145] at A144)
               have hji145w : (IntKind.i64.wrap ((wrap64 (64 * t479)) + t480)) = ji145 := (i64_w _).trans hji145
               by_cases c146 : 0 ≤ (ji145)
               ·as_aux_lemma =>
                rw [if_pos c146] at H
                have c146b0 : decide (0 ≤ (ji145)) = true := decide_eq_true c146
                clear c146
                by_cases c147 : (ji145) < (t515.length : Int)
                ·as_aux_lemma =>
                 rw [if_pos c147] at H
                 have c147b0 : decide ((ji145) < (t515.length : Int)) = true := decide_eq_true c147
                 clear c147
                 obtain rfl := Option.some.inj H
                 go_wp2_with (first | ((with_reducible refine gate_callee (f := 30) rfl ?_); refine goesL_ (some 242) rfl rfl Try.func30 (by kernel_rfl) rfl #[.slice Ao11 t478.length co11] rfl (by (try simp only [z6, z7, z8]); first | done | rfl | (simp only [z4, z5]; rfl)) ?_; (with_reducible refine (laws_pTable.calls k4 _ _ t478 t515 _ ?side1 ?side2 A144.out).mono ?_); (case side1 => repeat (first | exact (Kd.R_reads' HO_5.out).2.2 | (with_reducible refine Kd.C_alloc ?_ _) | (with_reducible refine Kd.C_drewN ?_ _) | (with_reducible refine Kd.C_drew ?_))); (case side2 => exact (Kd.R_reads' HO_5.out).2.1); rintro e w148 ⟨v516, rfl, ho0, hb⟩; refine ⟨_, rfl, ?_⟩; have n0_ := zK (Kd.R_below (by (with_reducible repeat (first | apply Kd.R_alloc | apply Kd.R_drewN | apply Kd.R_drew)); exact HO_5.out) hb); have n1_ := zK (Kd.R_elder' (by (with_reducible repeat (first | apply Kd.R_alloc | apply Kd.R_drewN | apply Kd.R_drew)); exact HO_8.out) (Kd.R_base ho0) hb); have n2_ := zK (Kd.R_below (by (with_reducible repeat (first | apply Kd.R_alloc | apply Kd.R_drewN | apply Kd.R_drew)); exact HO_146.out) hb); have n3_ := zK (Kd.R_lower (Kd.R_new' ho0 (Kd.R_lt (by (with_reducible repeat (first | apply Kd.R_alloc | apply Kd.R_drewN | apply Kd.R_drew)); exact HO_8.out))) (zN (by repeat (first | (with_reducible first | exact HB.out | apply zA | apply zB | apply zC) | exact HB.out)))); have n4_ := zK (zL (by repeat (first | (with_reducible first | exact HB.out | apply zA | apply zB | apply zC) | exact HB.out)) hb); clear HO_5; clear HO_8; clear HO_146; clear HB; have HO_5 := n0_; have HO_8 := n1_; have HO_146 := n2_; have HO517 := n3_; have HB := n4_; clear n0_ n1_ n2_ n3_ n4_; (try clear hb); (try clear hb2); (try clear hk); (try clear hi); (try clear ho0); obtain ⟨Ao149, co149, eo149⟩ := Kd.R_slice HO517.out; subst eo149; have p518 : 0 ≤ ((ji145) : Int) := zo; have q518 : (ji145) < (t515.length : Int) := zo; obtain ⟨ad518, e518, hx518_0⟩ := Kd.at_int (Kd.R_reads' HO517.out).2.2 (ji145) p518 q518; cases e518; replace p518 := eq_true p518; replace q518 := eq_true q518))
                 go_ret
                 exact ⟨by first | rfl | (simp [errW_none, errW_some] <;> rfl) | (simp only [← hji145]; first | rfl | (simp [errW_none, errW_some] <;> rfl)) | (simp [*, errW_none, errW_some] <;> rfl), by repeat (first | (with_reducible first | exact HB.out | apply zA | apply zB | apply zC) | exact HB.out)⟩
                ·as_aux_lemma =>
                 rw [if_neg c147] at H
                 exact absurd H (by simp)
               ·as_aux_lemma =>
                rw [if_neg c146] at H
                exact absurd H (by simp)
           ·replace c59 := Bool.eq_false_iff.mpr c59
            subst c59
            have H1 : (some true) = some r := by rw [if_neg (show ¬ (false = true) by decide)] at H; exact H
            clear H
            have H := H1
            clear H1
            obtain rfl := Option.some.inj H
            go_wp2
            go_ret
            exact ⟨by first | rfl | (simp [errW_none, errW_some] <;> rfl) | (simp [*, errW_none, errW_some] <;> rfl), by repeat (first | (with_reducible first | exact HB.out | apply zA | apply zB | apply zC) | exact HB.out)⟩

/-- THE ONE PURE STATEMENT of laws_FnValuesOfNodes: yours. -/
def laws_FnValuesOfNodes.Pure : Prop := ∀ (l0 : List Int) (l1 : List Int), l0.length ≤ maxLen → l0.length * 1 ≤ 140737488351232 → (∀ x ∈ l0, (Lit.int .u8 x).wf = true) → l1.length ≤ maxLen → l1.length * 1 ≤ 140737488351232 → (∀ x ∈ l1, (Lit.int .u8 x).wf = true) → ∃ k, laws_FnValuesOfNodes.f k l0 l1 = some true
theorem laws_FnValuesOfNodes.walk (P : laws_FnValuesOfNodes.Pure) (a0 : Option Addr) (len0 cap0 : Nat) (z0 : List Int) (a1 : Option Addr) (len1 cap1 : Nat) (z1 : List Int) (w : World) (w0 : (a0 = none ∧ len0 = 0 ∧ cap0 = 0 ∧ z0 = []) ∨ ∃ x, a0 = some x ∧ len0 ≤ cap0 ∧ cap0 ≤ maxLen ∧ z0.length = cap0 ∧ (∀ i, i < z0.length → w.cell? (x.add i) = some (.int .u8 (z0.getD i 0))) ∧ ∀ n ∈ z0, (Lit.int .u8 n).wf = true) (y0 : len0 * 1 ≤ 140737488351232) (w1 : (a1 = none ∧ len1 = 0 ∧ cap1 = 0 ∧ z1 = []) ∨ ∃ x, a1 = some x ∧ len1 ≤ cap1 ∧ cap1 ≤ maxLen ∧ z1.length = cap1 ∧ (∀ i, i < z1.length → w.cell? (x.add i) = some (.int .u8 (z1.getD i 0))) ∧ ∀ n ∈ z1, (Lit.int .u8 n).wf = true) (y1 : len1 * 1 ≤ 140737488351232) :
  Calls Try.prog 4 #[.slice a0 len0 cap0, .slice a1 len1 cap1] w fun e w' => e = .returned (.bool true) ∧ Below w.heap.size w w' := by
 obtain ⟨l0, rfl, hr0, hm0, hw0, hc0⟩ := ReadsInt.ofRowC w0
 obtain ⟨l1, rfl, hr1, hm1, hw1, hc1⟩ := ReadsInt.ofRowC w1
 obtain ⟨k, h⟩ := P l0 l1 hm0 y0 hw0 hm1 y1 hw1
 refine (laws_FnValuesOfNodes.calls k _ _ l0 _ _ l1 true w (Kd.C_of_reads (d := (0 : Int)) (h1 := fun _ => rfl) hr0) hc0 (Kd.C_of_reads (d := (0 : Int)) (h1 := fun _ => rfl) hr1) hc1 h rfl).mono ?_
 rintro e w' ⟨rfl, hd⟩
 exact ⟨rfl, hd⟩

end Go.Proofs.Ytlcplhcccgbmnaa.C
