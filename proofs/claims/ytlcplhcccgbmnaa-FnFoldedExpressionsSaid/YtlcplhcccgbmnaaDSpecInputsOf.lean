/- Contracts: spec_InputsOf, impl_DepthOf, spec_l1Most, spec_DepthOf. -/
import Derived.Test.YtlcplhcccgbmnaaDK
import Derived.Test.YtlcplhcccgbmnaaDLawsBig
import Derived.Test.YtlcplhcccgbmnaaDImplIsExpr
import Derived.Test.YtlcplhcccgbmnaaDSpecL1CurNext
import Derived.Test.YtlcplhcccgbmnaaDSpecExGood
import Derived.Test.YtlcplhcccgbmnaaDSpecL1Expr
import Derived.Test.YtlcplhcccgbmnaaDSpecFoldExpr
namespace Go.Proofs.Ytlcplhcccgbmnaa.D
open Go.RowKit Go.Proofs.YtlcplhcccgbmnaaW.PrintWords Go.Proofs.YtlcplhcccgbmnaaW.PrintLast Go.Proofs.YtlcplhcccgbmnaaW.PrintMore
attribute [local go_sem] max2_int min2_int max_two min_two max_three min_three max_four min_four   -- for this text's walks alone
set_option linter.unusedVariables false
set_option linter.unusedSimpArgs false

/-! ### spec_InputsOf: function 42 -/
def spec_InputsOf.l0 : Nat → List Int → List (S47) → Int → Int → Option (List Int × Bool)
 | 0, _, _, _, _ => none
 | k + 1, x4, x10, x11, x12 => if x12 < x11 then (if 0 ≤ x12 then (if x12 < (x10.length : Int) then (if ((rd_T47 x10 x12).f0).toList = ([105, 110] : List UInt8) then ((spec_l1Put.f k x4 ((rd_T47 x10 x12).f3)).bind fun t583 => (spec_InputsOf.l0 k t583 x10 x11 (wrap64 (x12 + 1)))) else (spec_InputsOf.l0 k x4 x10 x11 (wrap64 (x12 + 1)))) else (none)) else (none)) else (some (x4, true))
def spec_InputsOf.f (k : Nat) (l0 : List (S47)) : Option (List Int × Bool) := (spec_exGood.f k l0).bind fun t580 => (if t580 = true then (spec_InputsOf.l0 k ([] : List Int) l0 (l0.length : Int) 0) else (some (([] : List Int), false)))
set_option maxHeartbeats 8000000 in
set_option maxRecDepth 100000 in
theorem spec_InputsOf.calls (k : Nat) (A0 : Option Addr) (c0 : Nat) (l0 : List (S47)) (r1 : List Int) (r2 : Bool) (w : World) (hr0 : Kd.C k47 w A0 l0.length l0) (hc0 : l0.length ≤ c0) (h : spec_InputsOf.f k l0 = some (r1, r2)) :
  Calls Try.prog 42 #[.slice A0 l0.length c0] w fun e w' => ∃ v0_ : Value, e = .returned (.tuple #[v0_, .bool r2]) ∧ Kd.R (Kd.int .i64) 3 w' w.heap.size (fun _ => True) v0_ r1 ∧ Below w.heap.size w w' := by
 have hu47 := Try.underlying47
 have HR0 := zK hr0
 have HC0 := zK hc0
 clear hr0 hc0
 have HB := zK (Below.refl w.heap.size w)
 have H : ((spec_exGood.f k l0).bind fun t580 => (if t580 = true then (spec_InputsOf.l0 k ([] : List Int) l0 (l0.length : Int) 0) else (some (([] : List Int), false)))) = some (r1, r2) := h
 clear h
 replace H := Option.bind_eq_some_iff.mp H
 obtain ⟨t580, A20, H⟩ := H
 replace H : (if t580 = true then (spec_InputsOf.l0 k ([] : List Int) l0 (l0.length : Int) 0) else (some (([] : List Int), false))) = some (r1, r2) := H
 have A2 := zK A20
 clear A20
 by_cases c3 : t580 = true
 ·subst c3
  rw [if_pos rfl] at H
  have H' := zK H
  clear H
  go_enter Try.func42, Try.ntmps42
  go_wp2_with (first | ((with_reducible refine gate_callee (f := 60) rfl ?_); refine goesL_ (some 8) rfl rfl Try.func60 yi rfl #[.slice A0 l0.length c0] rfl yb ?_; (with_reducible refine (spec_exGood.calls k _ _ l0 true _ ?side1 ?side2 A2.out).mono ?_); (case side1 => exact xxc); (case side2 => exact HC0.out); rintro e w4 ⟨rfl, hb⟩; refine ⟨_, rfl, ?_⟩; have n0_ := zK (zL ya hb); clear HB; have HB := n0_; clear n0_; (try clear hb); (try clear hb2); (try clear hk); (try clear hi)))
  go_loopg [4, 12] k (fun kq v4 v12 w' => ∃ (x4_1 : List Int) (x12_1 : Int), v12 = .int .i64 x12_1 ∧ Aside0 (spec_InputsOf.l0 kq x4_1 l0 (l0.length : Int) x12_1 = some (r1, r2)) ∧ Aside0 (kq ≤ k) ∧ Aside0 (Kd.R (Kd.int .i64) 3 w' w.heap.size (fun _ => True) v4 x4_1) ∧ Aside0 (Below w.heap.size w w'))
  case atStart => exact ⟨(([] : List Int)), (0), ye, H', ⟨Nat.le_refl _⟩, ⟨yd1⟩, ⟨ya⟩⟩
  case round =>
   clear H'
   try clear p2
   try clear c3
   try clear c4
   obtain ⟨x4_1, x12_1, rfl, HA, HK1, HO_4, HB⟩ := hrel
   cases gk with
   | zero => exact absurd HA.out (by simp [spec_InputsOf.l0])
   | succ k1 =>
    have H := HA.out
    clear HA
    simp only [spec_InputsOf.l0] at H
    by_cases c5 : x12_1 < (l0.length : Int)
    ·rw [if_pos c5] at H
     have c5b0 : decide (x12_1 < (l0.length : Int)) = true := decide_eq_true c5
     clear c5
     by_cases c6 : 0 ≤ x12_1
     ·rw [if_pos c6] at H
      have c6b0 : decide (0 ≤ x12_1) = true := decide_eq_true c6
      clear c6
      by_cases c7 : x12_1 < (l0.length : Int)
      ·rw [if_pos c7] at H
       have c7b0 : decide (x12_1 < (l0.length : Int)) = true := decide_eq_true c7
       clear c7
       by_cases c8 : ((rd_T47 l0 x12_1).f0).toList = ([105, 110] : List UInt8)
       ·rw [if_pos c8] at H
        have c8b0 : (((rd_T47 l0 x12_1).f0).toList == ([105, 110] : List UInt8)) = true := beq_iff_eq.mpr c8
        have c8b1 : (((rd_T47 l0 x12_1).f0).toList != ([105, 110] : List UInt8)) = false := bne_eq_false_iff_eq.mpr c8
        clear c8
        replace H := Option.bind_eq_some_iff.mp H
        obtain ⟨t583, A90, H⟩ := H
        replace H : (spec_InputsOf.l0 k1 t583 l0 (l0.length : Int) (wrap64 (x12_1 + 1))) = some (r1, r2) := H
        have A9 := zK A90
        clear A90
        have H' := zK H
        clear H
        have p581 : 0 ≤ (x12_1 : Int) := zo
        have q581 : x12_1 < (l0.length : Int) := zo
        obtain ⟨ad581, e581, hx581_0, hx581_1, hx581_2, hx581_3⟩ := at_T47 HR0.out x12_1 p581 q581
        cases e581
        replace hx581_0 := zt HB.out hx581_0
        replace hx581_1 := zt HB.out hx581_1
        replace hx581_2 := zt HB.out hx581_2
        replace hx581_3 := zt HB.out hx581_3
        replace p581 := eq_true p581
        replace q581 := eq_true q581
        go_wp2_with (first | ((with_reducible refine gate_dst (N := 6) rfl ?_); refine box_event ?hg (N := 6) ?hd (cs := #[.string (⟨#[]⟩ : ByteArray), .int .i64 0, .int .i64 0, .int .i64 0]) (t := 47) ?hr ?_; (case hd | hg => rfl); (case hr => exact xxa); intro gb582 hg w10 hbox hb; have n0_ := zK (Kd.R_below yi1 hb); have n1_ := zK (zL ya hb); have n2_ := zK (hbox); have n3_ := zK ((by rw [hg]; exact (zN ya) : w.heap.size ≤ gb582)); have n4_ := n3_; clear HO_4; clear HB; have HO_4 := n0_; have HB := n1_; have BK582 := n2_; have GW582 := n3_; have GE582 := n4_; clear n0_ n1_ n2_ n3_ n4_; clear hb hbox hg; have hcz11_0 : w10.cell? ⟨gb582, 0, none⟩ = some (.string (⟨#[]⟩ : ByteArray)) := (zI BK582.out 0).trans rfl; have hcz11_1 : w10.cell? ⟨gb582, 1, none⟩ = some (.int .i64 0) := (zI BK582.out 1).trans rfl; have hcz11_2 : w10.cell? ⟨gb582, 2, none⟩ = some (.int .i64 0) := (zI BK582.out 2).trans rfl; have hcz11_3 : w10.cell? ⟨gb582, 3, none⟩ = some (.int .i64 0) := (zI BK582.out 3).trans rfl; have hfz11_0 := zH BK582.out 0; have hfz11_1 := zH BK582.out 1; have hfz11_2 := zH BK582.out 2; have hfz11_3 := zH BK582.out 3) | ((with_reducible refine gate_store (t := 47) (p := 6) rfl ?_); refine store_event (t := 47) (p := 6) (v := ?vo_w12) (w1 := ((((w10.setCell ⟨gb582, 0, none⟩ (.string ((rd_T47 l0 x12_1).f0))).setCell ⟨gb582, 1, none⟩ (.int .i64 ((rd_T47 l0 x12_1).f1))).setCell ⟨gb582, 2, none⟩ (.int .i64 ((rd_T47 l0 x12_1).f2))).setCell ⟨gb582, 3, none⟩ (.int .i64 ((rd_T47 l0 x12_1).f3)))) ?hg ?ho ?hn ?hr ?_; (case ho => rfl); (case hg => rfl); (case hn => rfl); (case hr => exact xxa); intro w12 hw; have n0_ : Aside0 (Kd.R (Kd.int .i64) 3 w12 w.heap.size (fun _ => True) u4 x4_1) := ⟨(by rw [hw]; exact (by (with_reducible repeat (first | apply Kd.R_alloc | apply Kd.R_drewN | apply Kd.R_drew)); exact Kd.R_mono (Kd.R_far (p := ⟨gb582, 3, none⟩) (Kd.R_far (p := ⟨gb582, 2, none⟩) (Kd.R_far (p := ⟨gb582, 1, none⟩) (Kd.R_far (p := ⟨gb582, 0, none⟩) (Kd.R_types HO_4.out BK582.out yp1) (fun _ hk => hk.2) (.string ((rd_T47 l0 x12_1).f0))) (fun _ hk => hk.2) (.int .i64 ((rd_T47 l0 x12_1).f1))) (fun _ hk => hk.2) (.int .i64 ((rd_T47 l0 x12_1).f2))) (fun _ hk => hk.2) (.int .i64 ((rd_T47 l0 x12_1).f3))) (fun _ hk => trivial)))⟩; have n1_ : Aside0 (w12.heap[gb582]? = some (.cells #[.string ((rd_T47 l0 x12_1).f0), .int .i64 ((rd_T47 l0 x12_1).f1), .int .i64 ((rd_T47 l0 x12_1).f2), .int .i64 ((rd_T47 l0 x12_1).f3)] 47 (0, 0))) := ⟨(by rw [hw]; exact (by (with_reducible repeat (first | refine zE ?_ _ | refine zF ?_ | refine zG ?_ _)); refine blk_put (cs := #[.string ((rd_T47 l0 x12_1).f0), .int .i64 ((rd_T47 l0 x12_1).f1), .int .i64 ((rd_T47 l0 x12_1).f2), .int .i64 0]) ?_ 3 _ rfl; (with_reducible repeat (first | refine zE ?_ _ | refine zF ?_ | refine zG ?_ _)); refine blk_put (cs := #[.string ((rd_T47 l0 x12_1).f0), .int .i64 ((rd_T47 l0 x12_1).f1), .int .i64 0, .int .i64 0]) ?_ 2 _ rfl; (with_reducible repeat (first | refine zE ?_ _ | refine zF ?_ | refine zG ?_ _)); refine blk_put (cs := #[.string ((rd_T47 l0 x12_1).f0), .int .i64 0, .int .i64 0, .int .i64 0]) ?_ 1 _ rfl; (with_reducible repeat (first | refine zE ?_ _ | refine zF ?_ | refine zG ?_ _)); refine blk_put (cs := #[.string (⟨#[]⟩ : ByteArray), .int .i64 0, .int .i64 0, .int .i64 0]) ?_ 0 _ rfl; (with_reducible repeat (first | refine zE ?_ _ | refine zF ?_ | refine zG ?_ _)); exact BK582.out))⟩; have n2_ : Aside0 (Below w.heap.size w w12) := ⟨(by rw [hw]; exact (by repeat (first | (with_reducible first | exact HB.out | apply zA | apply zB | apply zC | refine zD ?_ GE582.out) | exact HB.out)))⟩; clear hw; clear HO_4; clear BK582; clear HB; have HO_4 := n0_; have BK582 := n1_; have HB := n2_; clear n0_ n1_ n2_; have hcz13_0 : w12.cell? ⟨gb582, 0, none⟩ = some (.string ((rd_T47 l0 x12_1).f0)) := (zI BK582.out 0).trans rfl; have hcz13_1 : w12.cell? ⟨gb582, 1, none⟩ = some (.int .i64 ((rd_T47 l0 x12_1).f1)) := (zI BK582.out 1).trans rfl; have hcz13_2 : w12.cell? ⟨gb582, 2, none⟩ = some (.int .i64 ((rd_T47 l0 x12_1).f2)) := (zI BK582.out 2).trans rfl; have hcz13_3 : w12.cell? ⟨gb582, 3, none⟩ = some (.int .i64 ((rd_T47 l0 x12_1).f3)) := (zI BK582.out 3).trans rfl; have hfz13_0 := zH BK582.out 0; have hfz13_1 := zH BK582.out 1; have hfz13_2 := zH BK582.out 2; have hfz13_3 := zH BK582.out 3; obtain ⟨Ao14, co14, eo14⟩ := Kd.R_slice HO_4.out; subst eo14) | ((with_reducible refine gate_callee (f := 99) rfl ?_); refine goesL_ (some 22) rfl rfl Try.func99 yi rfl #[.slice Ao14 x4_1.length co14, .int .i64 ((rd_T47 l0 x12_1).f3)] rfl yb ?_; (with_reducible refine (spec_l1Put.calls k1 (fun k_ => some k_ = (.slice Ao14 x4_1.length co14 : Value).ownBlock) (.slice Ao14 x4_1.length co14) x4_1 ((rd_T47 l0 x12_1).f3) t583 w _ ?side1 ?side2 A9.out).mono ?_); (case side1 => repeat (first | (with_reducible first | exact HB.out | apply zA | apply zB | apply zC | refine zD ?_ GE582.out) | exact HB.out)); (case side2 => exact Kd.R_tight rfl HO_4.out); rintro e w15 ⟨v584, rfl, ho0, hb, hkp⟩; refine ⟨_, rfl, ?_⟩; have n0_ := zK (blk_kept (yS BK582.out) hkp (fun hs_ => (fun e_ => (Kd.R_ne HO_4.out BK582.out yp1) e_) hs_)); have n1_ := zK (Kd.R_mono (ok' := fun k_ => True) ho0 (fun k_ hk_ => trivial)); have n2_ := zK (hb); clear BK582; clear HB; clear HO_4; have BK582 := n0_; have HO585 := n1_; have HB := n2_; clear n0_ n1_ n2_; (try clear hb); (try clear hkp); (try clear ho0)))
        go_roundg k1
        case measure => have := HK1.out; omega
        case rel => exact ⟨(t583), (wrap64 (x12_1 + 1)), ye, H', ⟨yb2⟩, ⟨yR HO585.out⟩, ⟨by repeat (first | (with_reducible first | exact HB.out | apply zA | apply zB | apply zC | refine zD ?_ GE582.out) | exact HB.out)⟩⟩
       ·rw [if_neg c8] at H
        have c8b0 : (((rd_T47 l0 x12_1).f0).toList == ([105, 110] : List UInt8)) = false := beq_eq_false_iff_ne.mpr c8
        have c8b1 : (((rd_T47 l0 x12_1).f0).toList != ([105, 110] : List UInt8)) = true := bne_iff_ne.mpr c8
        have H' := zK H
        clear H
        have p581 : 0 ≤ (x12_1 : Int) := zo
        have q581 : x12_1 < (l0.length : Int) := zo
        obtain ⟨ad581, e581, hx581_0, hx581_1, hx581_2, hx581_3⟩ := at_T47 HR0.out x12_1 p581 q581
        cases e581
        replace hx581_0 := zt HB.out hx581_0
        replace hx581_1 := zt HB.out hx581_1
        replace hx581_2 := zt HB.out hx581_2
        replace hx581_3 := zt HB.out hx581_3
        replace p581 := eq_true p581
        replace q581 := eq_true q581
        go_wp2_with (first | ((with_reducible refine gate_dst (N := 6) rfl ?_); refine box_event ?hg (N := 6) ?hd (cs := #[.string (⟨#[]⟩ : ByteArray), .int .i64 0, .int .i64 0, .int .i64 0]) (t := 47) ?hr ?_; (case hd | hg => rfl); (case hr => exact xxa); intro gb582 hg w16 hbox hb; have n0_ := zK (Kd.R_below yi1 hb); have n1_ := zK (zL ya hb); have n2_ := zK (hbox); have n3_ := zK ((by rw [hg]; exact (zN ya) : w.heap.size ≤ gb582)); have n4_ := n3_; clear HO_4; clear HB; have HO_4 := n0_; have HB := n1_; have BK582 := n2_; have GW582 := n3_; have GE582 := n4_; clear n0_ n1_ n2_ n3_ n4_; clear hb hbox hg; have hcz17_0 : w16.cell? ⟨gb582, 0, none⟩ = some (.string (⟨#[]⟩ : ByteArray)) := (zI BK582.out 0).trans rfl; have hcz17_1 : w16.cell? ⟨gb582, 1, none⟩ = some (.int .i64 0) := (zI BK582.out 1).trans rfl; have hcz17_2 : w16.cell? ⟨gb582, 2, none⟩ = some (.int .i64 0) := (zI BK582.out 2).trans rfl; have hcz17_3 : w16.cell? ⟨gb582, 3, none⟩ = some (.int .i64 0) := (zI BK582.out 3).trans rfl; have hfz17_0 := zH BK582.out 0; have hfz17_1 := zH BK582.out 1; have hfz17_2 := zH BK582.out 2; have hfz17_3 := zH BK582.out 3))
        go_roundg k1
        case measure => have := HK1.out; omega
        case rel => exact ⟨(x4_1), (wrap64 (x12_1 + 1)), ye, H', ⟨yb2⟩, ⟨by (with_reducible repeat (first | apply Kd.R_alloc | apply Kd.R_drewN | apply Kd.R_drew)); exact Kd.R_mono (Kd.R_far (p := ⟨gb582, 3, none⟩) (Kd.R_far (p := ⟨gb582, 2, none⟩) (Kd.R_far (p := ⟨gb582, 1, none⟩) (Kd.R_far (p := ⟨gb582, 0, none⟩) (Kd.R_types HO_4.out BK582.out yp1) (fun _ hk => hk.2) (.string ((rd_T47 l0 x12_1).f0))) (fun _ hk => hk.2) (.int .i64 ((rd_T47 l0 x12_1).f1))) (fun _ hk => hk.2) (.int .i64 ((rd_T47 l0 x12_1).f2))) (fun _ hk => hk.2) (.int .i64 ((rd_T47 l0 x12_1).f3))) (fun _ hk => trivial)⟩, ⟨by repeat (first | (with_reducible first | exact HB.out | apply zA | apply zB | apply zC | refine zD ?_ GE582.out) | exact HB.out)⟩⟩
      ·rw [if_neg c7] at H
       exact absurd H ye1
     ·rw [if_neg c6] at H
      exact absurd H ye1
    ·rw [if_neg c5] at H
     have c5b0 : decide (x12_1 < (l0.length : Int)) = false := decide_eq_false c5
     clear c5
     simp only [Option.some.injEq, Prod.mk.injEq] at H
     obtain ⟨rfl, rfl⟩ := H
     go_wp2
     go_ret2
     exact ⟨_, yd, yi1, ya⟩
 ·replace c3 := Bool.eq_false_iff.mpr c3
  subst c3
  rw [if_neg (show ¬ (false = true) by decide)] at H
  simp only [Option.some.injEq, Prod.mk.injEq] at H
  obtain ⟨rfl, rfl⟩ := H
  go_enter Try.func42, Try.ntmps42
  go_wp2_with (first | ((with_reducible refine gate_callee (f := 60) rfl ?_); refine goesL_ (some 8) rfl rfl Try.func60 yi rfl #[.slice A0 l0.length c0] rfl yb ?_; (with_reducible refine (spec_exGood.calls k _ _ l0 false _ ?side1 ?side2 A2.out).mono ?_); (case side1 => exact xxc); (case side2 => exact HC0.out); rintro e w18 ⟨rfl, hb⟩; refine ⟨_, rfl, ?_⟩; have n0_ := zK (zL ya hb); clear HB; have HB := n0_; clear n0_; (try clear hb); (try clear hb2); (try clear hk); (try clear hi)))
  go_ret2
  exact ⟨_, yd, yd1, ya⟩

/-! ### impl_DepthOf: function 43 -/
mutual
def impl_DepthOf.l0 : Nat → List (S47) → List Int → List (S47) → Int → Int → Option (Int × Bool)
 | 0, _, _, _, _, _ => none
 | k + 1, x0, x4, x15, x16, x17 => if x17 < x16 then (if 0 ≤ x17 then (if x17 < (x15.length : Int) then ((impl_Node_of.f k ((rd_T47 x15 x17).f0) ((rd_T47 x15 x17).f1) ((rd_T47 x15 x17).f2) ((rd_T47 x15 x17).f3)).bind fun t593 => (impl_DepthOf.l1 k x0 x4 x17 x15 x16 x17 t593 (t593.length : Int) 0)) else (none)) else (none)) else (if 0 ≤ (wrap64 ((x0.length : Int) - 1)) then (if (wrap64 ((x0.length : Int) - 1)) < (x4.length : Int) then (some (rd x4 (wrap64 ((x0.length : Int) - 1)), true)) else (none)) else (none))
def impl_DepthOf.l1 : Nat → List (S47) → List Int → Int → List (S47) → Int → Int → List Int → Int → Int → Option (Int × Bool)
 | 0, _, _, _, _, _, _, _, _, _ => none
 | k + 1, x0, x4, x5, x15, x16, x17, x23, x24, x25 => if x25 < x24 then (if 0 ≤ x25 then (if x25 < (x23.length : Int) then (if 0 ≤ x5 then (if x5 < (x4.length : Int) then (if 0 ≤ (rd x23 x25) then (if (rd x23 x25) < (x4.length : Int) then (impl_DepthOf.l1 k x0 (x4.set (x5 : Int).toNat (mx (rd x4 x5) (wrap64 ((rd x4 (rd x23 x25)) + 1)))) x5 x15 x16 x17 x23 x24 (wrap64 (x25 + 1))) else (none)) else (none)) else (none)) else (none)) else (none)) else (none)) else (impl_DepthOf.l0 k x0 x4 x15 x16 (wrap64 (x17 + 1)))
end
def impl_DepthOf.f (k : Nat) (l0 : List (S47)) : Option (Int × Bool) := (impl_IsExpr.f k l0).bind fun t586 => (if t586 = true then (if 0 ≤ (l0.length : Int) then (if ((l0.length : Int) : Int).toNat ≤ 35184372088832 then (impl_DepthOf.l0 k l0 (List.replicate ((l0.length : Int) : Int).toNat 0) l0 (l0.length : Int) 0) else (none)) else (none)) else (some (0, false)))
def impl_DepthOf.T10 : Bool × List (List Nat × List Nat) := (true, [([], []), ([], []), ([], []), ([], []), ([2, 3], [2, 3]), ([4], [4]), ([], []), ([], []), ([6, 7], [6, 7]), ([8], [8]), ([9], [9]), ([5, 10], [5, 10]), ([0, 1, 0, 1, 2, 3, 4, 5, 6, 7, 8, 9, 10, 11], [0, 1]), ([12, 11, 0, 1, 2, 3, 4, 5, 6, 7, 8, 9, 10, 11], [11, 12])])
def impl_DepthOf.B10 : List Nat := [0, 0, 0, 0, 12, 28, 0, 0, 192, 448, 960, 2044, 4095, 8191]
theorem impl_DepthOf.tab10 : rtab .any (opsOf Try.f43 10) = impl_DepthOf.T10 := by kernel_rfl
theorem impl_DepthOf.bits10 : waitsOk impl_DepthOf.T10.2 impl_DepthOf.B10 = true := by kernel_rfl
set_option maxHeartbeats 8000000 in
set_option maxRecDepth 100000 in
theorem impl_DepthOf.calls (k : Nat) (A0 : Option Addr) (c0 : Nat) (l0 : List (S47)) (r1 : Int) (r2 : Bool) (w : World) (hr0 : Kd.C k47 w A0 l0.length l0) (hc0 : l0.length ≤ c0) (h : impl_DepthOf.f k l0 = some (r1, r2)) :
  Calls Try.prog 43 #[.slice A0 l0.length c0] w fun e w' => e = .returned (.tuple #[.int .i64 r1, .bool r2]) ∧ Below w.heap.size w w' := by
 have hu47 := Try.underlying47
 have HR0 := zK hr0
 have HC0 := zK hc0
 clear hr0 hc0
 have HB := zK (Below.refl w.heap.size w)
 have H : ((impl_IsExpr.f k l0).bind fun t586 => (if t586 = true then (if 0 ≤ (l0.length : Int) then (if ((l0.length : Int) : Int).toNat ≤ 35184372088832 then (impl_DepthOf.l0 k l0 (List.replicate ((l0.length : Int) : Int).toNat 0) l0 (l0.length : Int) 0) else (none)) else (none)) else (some (0, false)))) = some (r1, r2) := h
 clear h
 replace H := Option.bind_eq_some_iff.mp H
 obtain ⟨t586, A20, H⟩ := H
 replace H : (if t586 = true then (if 0 ≤ (l0.length : Int) then (if ((l0.length : Int) : Int).toNat ≤ 35184372088832 then (impl_DepthOf.l0 k l0 (List.replicate ((l0.length : Int) : Int).toNat 0) l0 (l0.length : Int) 0) else (none)) else (none)) else (some (0, false))) = some (r1, r2) := H
 have A2 := zK A20
 clear A20
 by_cases c3 : t586 = true
 ·subst c3
  rw [if_pos rfl] at H
  by_cases c4 : 0 ≤ (l0.length : Int)
  ·rw [if_pos c4] at H
   have c4b0 := eq_true c4
   have c4b1 : decide (0 ≤ (l0.length : Int)) = true := decide_eq_true c4
   clear c4
   by_cases c5 : ((l0.length : Int) : Int).toNat ≤ 35184372088832
   ·rw [if_pos c5] at H
    have c5b0 := eq_true c5
    have c5b1 : decide (((l0.length : Int) : Int).toNat ≤ 35184372088832) = true := decide_eq_true c5
    clear c5
    obtain ⟨y587, hy587⟩ : ∃ y_ : List Int, y_ = (List.replicate ((l0.length : Int) : Int).toNat 0) := ⟨_, rfl⟩
    replace H : (impl_DepthOf.l0 k l0 y587 l0 (l0.length : Int) 0) = some (r1, r2) := by have hy_ := hy587; exact xH
    have Ny587 := zK hy587
    clear hy587
    have H' := zK H
    clear H
    go_enter Try.func43, Try.ntmps43
    go_wp2_with (first | ((with_reducible refine gate_callee (f := 20) rfl ?_); refine goesL_ (some 10) rfl rfl Try.func20 yi rfl #[.slice A0 l0.length c0] rfl yb ?_; (with_reducible refine (impl_IsExpr.calls k _ _ l0 true _ ?side1 ?side2 A2.out).mono ?_); (case side1 => exact xxc); (case side2 => exact HC0.out); rintro e w6 ⟨rfl, hb⟩; refine ⟨_, rfl, ?_⟩; have n0_ := zK (zL ya hb); clear HB; have HB := n0_; clear n0_; (try clear hb); (try clear hb2); (try clear hk); (try clear hi)) | ((with_reducible refine gate_dst (N := 14) rfl ?_); refine Kd.R_make (Kd.int .i64) _ 3 rfl (N := 14) rfl 31 _ _ rfl (l0.length : Int) rfl rfl Try.underlying31 (.int .i64 0) 8 info3 rfl yp1 (by omega) 0 (ok := fun _ => True) (okp := fun _ => True) rfl (fun _ hk => hk) trivial (zo) (Nat.le_trans (Nat.mul_le_mul_right _ (zo : (l0.length : Int).toNat ≤ 35184372088832)) (by omega)) (Below.refl _ _) (Nat.le_refl _) ?_; intro v588 w7 ho8 hb hg_ hnew_; clear hg_ hnew_; (first | rw [← Ny587.out] at ho8 | (simp only [Int.reduceToNat] at ho8; rw [← Ny587.out] at ho8)); have n0_ := zK (Kd.R_lower ho8 (zN ya)); have n1_ := zK (zL ya hb); clear HB; have HO589 := n0_; have HB := n1_; clear n0_ n1_; clear hb ho8))
    go_loopg [17] k (fun kq v17 w' => ∃ (x4_1 : List Int) (x17_1 : Int), v17 = .int .i64 x17_1 ∧ Aside0 (impl_DepthOf.l0 kq l0 x4_1 l0 (l0.length : Int) x17_1 = some (r1, r2)) ∧ Aside0 (kq ≤ k) ∧ Aside0 (Kd.R (Kd.int .i64) 3 w' w.heap.size (fun _ => True) v588 x4_1) ∧ Aside0 (Below w.heap.size w w'))
    case atStart => exact ⟨(y587), (0), ye, H', ⟨Nat.le_refl _⟩, ⟨yR HO589.out⟩, ⟨ya⟩⟩
    case round =>
     clear H'
     try clear c2
     try clear p2
     try clear c3
     try clear c4
     try clear c4b0
     try clear c4b1
     try clear c5
     try clear c5b0
     try clear c5b1
     obtain ⟨x4_1, x17_1, rfl, HA, HK1, HO_4, HB⟩ := hrel
     cases gk with
     | zero => exact absurd HA.out (by simp [impl_DepthOf.l0])
     | succ k1 =>
      have H := HA.out
      clear HA
      simp only [impl_DepthOf.l0] at H
      by_cases c9 : x17_1 < (l0.length : Int)
      ·rw [if_pos c9] at H
       have c9b0 : decide (x17_1 < (l0.length : Int)) = true := decide_eq_true c9
       clear c9
       by_cases c10 : 0 ≤ x17_1
       ·rw [if_pos c10] at H
        have c10b0 : decide (0 ≤ x17_1) = true := decide_eq_true c10
        clear c10
        by_cases c11 : x17_1 < (l0.length : Int)
        ·rw [if_pos c11] at H
         have c11b0 : decide (x17_1 < (l0.length : Int)) = true := decide_eq_true c11
         clear c11
         replace H := Option.bind_eq_some_iff.mp H
         obtain ⟨t593, A120, H⟩ := H
         replace H : (impl_DepthOf.l1 k1 l0 x4_1 x17_1 l0 (l0.length : Int) x17_1 t593 (t593.length : Int) 0) = some (r1, r2) := H
         have A12 := zK A120
         clear A120
         have H' := zK H
         clear H
         have p591 : 0 ≤ (x17_1 : Int) := zo
         have q591 : x17_1 < (l0.length : Int) := zo
         obtain ⟨ad591, e591, hx591_0, hx591_1, hx591_2, hx591_3⟩ := at_T47 HR0.out x17_1 p591 q591
         cases e591
         replace hx591_0 := zt HB.out hx591_0
         replace hx591_1 := zt HB.out hx591_1
         replace hx591_2 := zt HB.out hx591_2
         replace hx591_3 := zt HB.out hx591_3
         replace p591 := eq_true p591
         replace q591 := eq_true q591
         go_wp2_with (first | ((with_reducible refine gate_dst (N := 6) rfl ?_); refine box_event ?hg (N := 6) ?hd (cs := #[.string (⟨#[]⟩ : ByteArray), .int .i64 0, .int .i64 0, .int .i64 0]) (t := 47) ?hr ?_; (case hd | hg => rfl); (case hr => exact xxa); intro gb592 hg w13 hbox hb; have n0_ := zK (Kd.R_below yi1 hb); have n1_ := zK (zL ya hb); have n2_ := zK (hbox); have n3_ := zK ((by rw [hg]; exact (zN ya) : w.heap.size ≤ gb592)); have n4_ := n3_; clear HO_4; clear HB; have HO_4 := n0_; have HB := n1_; have BK592 := n2_; have GW592 := n3_; have GE592 := n4_; clear n0_ n1_ n2_ n3_ n4_; clear hb hbox hg; have hcz14_0 : w13.cell? ⟨gb592, 0, none⟩ = some (.string (⟨#[]⟩ : ByteArray)) := (zI BK592.out 0).trans rfl; have hcz14_1 : w13.cell? ⟨gb592, 1, none⟩ = some (.int .i64 0) := (zI BK592.out 1).trans rfl; have hcz14_2 : w13.cell? ⟨gb592, 2, none⟩ = some (.int .i64 0) := (zI BK592.out 2).trans rfl; have hcz14_3 : w13.cell? ⟨gb592, 3, none⟩ = some (.int .i64 0) := (zI BK592.out 3).trans rfl; have hfz14_0 := zH BK592.out 0; have hfz14_1 := zH BK592.out 1; have hfz14_2 := zH BK592.out 2; have hfz14_3 := zH BK592.out 3) | ((with_reducible refine gate_callee (f := 100) rfl ?_); refine goesL_ (some 23) rfl rfl Try.func100 yi rfl #[.agg #[.string ((rd_T47 l0 x17_1).f0), .int .i64 ((rd_T47 l0 x17_1).f1), .int .i64 ((rd_T47 l0 x17_1).f2), .int .i64 ((rd_T47 l0 x17_1).f3)]] rfl yb ?_; (with_reducible refine (impl_Node_of.calls k1 ((rd_T47 l0 x17_1).f0) ((rd_T47 l0 x17_1).f1) ((rd_T47 l0 x17_1).f2) ((rd_T47 l0 x17_1).f3) t593 _ A12.out).mono ?_); rintro e w15 ⟨v594, rfl, ho0, hb⟩; refine ⟨_, rfl, ?_⟩; have n0_ := zK (Kd.R_elder' (by (with_reducible repeat (first | apply Kd.R_alloc | apply Kd.R_drewN | apply Kd.R_drew)); exact (Kd.R_mono (Kd.R_far (p := ⟨gb592, 3, none⟩) (Kd.R_far (p := ⟨gb592, 2, none⟩) (Kd.R_far (p := ⟨gb592, 1, none⟩) (Kd.R_far (p := ⟨gb592, 0, none⟩) (Kd.R_types HO_4.out BK592.out yp1) (fun _ hk => hk.2) (.string ((rd_T47 l0 x17_1).f0))) (fun _ hk => hk.2) (.int .i64 ((rd_T47 l0 x17_1).f1))) (fun _ hk => hk.2) (.int .i64 ((rd_T47 l0 x17_1).f2))) (fun _ hk => hk.2) (.int .i64 ((rd_T47 l0 x17_1).f3))) (fun _ h_ => h_.1))) (Kd.R_base ho0) hb); have n1_ := zK (Kd.R_lower (Kd.R_new' ho0 (Kd.R_lt (by (with_reducible repeat (first | apply Kd.R_alloc | apply Kd.R_drewN | apply Kd.R_drew)); exact (Kd.R_mono (Kd.R_far (p := ⟨gb592, 3, none⟩) (Kd.R_far (p := ⟨gb592, 2, none⟩) (Kd.R_far (p := ⟨gb592, 1, none⟩) (Kd.R_far (p := ⟨gb592, 0, none⟩) (Kd.R_types HO_4.out BK592.out yp1) (fun _ hk => hk.2) (.string ((rd_T47 l0 x17_1).f0))) (fun _ hk => hk.2) (.int .i64 ((rd_T47 l0 x17_1).f1))) (fun _ hk => hk.2) (.int .i64 ((rd_T47 l0 x17_1).f2))) (fun _ hk => hk.2) (.int .i64 ((rd_T47 l0 x17_1).f3))) (fun _ h_ => h_.1))))) (zN (by repeat (first | (with_reducible first | exact HB.out | apply zA | apply zB | apply zC | refine zD ?_ GE592.out) | exact HB.out)))); have n2_ := zK (zM (g := gb592) (o := .cells #[.string ((rd_T47 l0 x17_1).f0), .int .i64 ((rd_T47 l0 x17_1).f1), .int .i64 ((rd_T47 l0 x17_1).f2), .int .i64 ((rd_T47 l0 x17_1).f3)] 47 (0, 0)) (by (with_reducible repeat (first | refine zE ?_ _ | refine zF ?_ | refine zG ?_ _)); refine blk_put (cs := #[.string ((rd_T47 l0 x17_1).f0), .int .i64 ((rd_T47 l0 x17_1).f1), .int .i64 ((rd_T47 l0 x17_1).f2), .int .i64 0]) ?_ 3 _ rfl; (with_reducible repeat (first | refine zE ?_ _ | refine zF ?_ | refine zG ?_ _)); refine blk_put (cs := #[.string ((rd_T47 l0 x17_1).f0), .int .i64 ((rd_T47 l0 x17_1).f1), .int .i64 0, .int .i64 0]) ?_ 2 _ rfl; (with_reducible repeat (first | refine zE ?_ _ | refine zF ?_ | refine zG ?_ _)); refine blk_put (cs := #[.string ((rd_T47 l0 x17_1).f0), .int .i64 0, .int .i64 0, .int .i64 0]) ?_ 1 _ rfl; (with_reducible repeat (first | refine zE ?_ _ | refine zF ?_ | refine zG ?_ _)); refine blk_put (cs := #[.string (⟨#[]⟩ : ByteArray), .int .i64 0, .int .i64 0, .int .i64 0]) ?_ 0 _ rfl; (with_reducible repeat (first | refine zE ?_ _ | refine zF ?_ | refine zG ?_ _)); exact BK592.out) hb); have n3_ := zK (zL (by repeat (first | (with_reducible first | exact HB.out | apply zA | apply zB | apply zC | refine zD ?_ GE592.out) | exact HB.out)) hb); clear HO_4; clear BK592; clear HB; have HO_4 := n0_; have HO595 := n1_; have BK592 := n2_; have HB := n3_; clear n0_ n1_ n2_ n3_; (try clear hb); (try clear hb2); (try clear hk); (try clear hi); (try clear ho0); obtain ⟨Ao16, co16, eo16⟩ := Kd.R_slice HO595.out; subst eo16))
         go_loopg [25] k1 (fun kq v25 w' => ∃ (x4_2 : List Int) (x25_2 : Int), v25 = .int .i64 x25_2 ∧ Aside0 (impl_DepthOf.l1 kq l0 x4_2 x17_1 l0 (l0.length : Int) x17_1 t593 (t593.length : Int) x25_2 = some (r1, r2)) ∧ Aside0 (kq ≤ k1) ∧ Aside0 (Kd.R (Kd.int .i64) 3 w' w.heap.size (fun k_ => some k_ ≠ ((.slice Ao16 t593.length co16) : Value).ownBlock) v588 x4_2) ∧ Aside0 (Kd.R (Kd.int .i64) 3 w' w.heap.size (fun k_ => some k_ ≠ (v588 : Value).ownBlock) (.slice Ao16 t593.length co16) t593) ∧ Aside0 (w'.heap[gb592]? = some (.cells #[.string ((rd_T47 l0 x17_1).f0), .int .i64 ((rd_T47 l0 x17_1).f1), .int .i64 ((rd_T47 l0 x17_1).f2), .int .i64 ((rd_T47 l0 x17_1).f3)] 47 (0, 0))) ∧ Aside0 (Below w.heap.size w w'))
         case atStart => exact ⟨(x4_1), (0), ye, H', ⟨Nat.le_refl _⟩, ⟨by (with_reducible repeat (first | apply Kd.R_alloc | apply Kd.R_drewN | apply Kd.R_drew)); exact Kd.R_mono HO_4.out (fun _ hk => hk.2)⟩, ⟨by (with_reducible repeat (first | apply Kd.R_alloc | apply Kd.R_drewN | apply Kd.R_drew)); exact Kd.R_mono HO595.out (fun _ hk => hk.2)⟩, ⟨yS BK592.out⟩, ⟨by repeat (first | (with_reducible first | exact HB.out | apply zA | apply zB | apply zC | refine zD ?_ GE592.out) | exact HB.out)⟩⟩
         case round =>
          clear H'
          try clear c1
          try clear c2
          try clear p2
          try clear c3
          try clear c4
          try clear c4b0
          try clear c4b1
          try clear c5
          try clear c5b0
          try clear c5b1
          try clear p5
          try clear q5
          try clear hx5
          try clear c9
          try clear c9b0
          try clear c10
          try clear c10b0
          try clear c11
          try clear c11b0
          try clear hcz14_0
          try clear hcz14_1
          try clear hcz14_2
          try clear hcz14_3
          try clear hfz14_0
          try clear hfz14_1
          try clear hfz14_2
          try clear hfz14_3
          try clear hx591_0
          try clear hx591_1
          try clear hx591_2
          try clear hx591_3
          try clear p2
          try clear p591
          try clear q591
          obtain ⟨x4_2, x25_2, rfl, HA, HK2, HO_4, HO_23, BK592, HB⟩ := hrel
          cases gk with
          | zero => exact absurd HA.out (by simp [impl_DepthOf.l1])
          | succ k2 =>
           have H := HA.out
           clear HA
           simp only [impl_DepthOf.l1] at H
           by_cases c17 : x25_2 < (t593.length : Int)
           ·rw [if_pos c17] at H
            have c17b0 : decide (x25_2 < (t593.length : Int)) = true := decide_eq_true c17
            clear c17
            by_cases c18 : 0 ≤ x25_2
            ·rw [if_pos c18] at H
             have c18b0 : decide (0 ≤ x25_2) = true := decide_eq_true c18
             clear c18
             by_cases c19 : x25_2 < (t593.length : Int)
             ·rw [if_pos c19] at H
              have c19b0 : decide (x25_2 < (t593.length : Int)) = true := decide_eq_true c19
              clear c19
              by_cases c20 : 0 ≤ x17_1
              ·rw [if_pos c20] at H
               have c20b0 : decide (0 ≤ x17_1) = true := decide_eq_true c20
               clear c20
               by_cases c21 : x17_1 < (x4_2.length : Int)
               ·rw [if_pos c21] at H
                have c21b0 : decide (x17_1 < (x4_2.length : Int)) = true := decide_eq_true c21
                clear c21
                by_cases c22 : 0 ≤ (rd t593 x25_2)
                ·rw [if_pos c22] at H
                 have c22b0 : decide (0 ≤ (rd t593 x25_2)) = true := decide_eq_true c22
                 clear c22
                 by_cases c23 : (rd t593 x25_2) < (x4_2.length : Int)
                 ·rw [if_pos c23] at H
                  have c23b0 : decide ((rd t593 x25_2) < (x4_2.length : Int)) = true := decide_eq_true c23
                  clear c23
                  obtain ⟨ji24, hji24⟩ : ∃ j_ : Int, (mx (rd x4_2 x17_1) (wrap64 ((rd x4_2 (rd t593 x25_2)) + 1))) = j_ := ⟨_, rfl⟩
                  replace H : (impl_DepthOf.l1 k2 l0 (x4_2.set (x17_1 : Int).toNat (ji24)) x17_1 l0 (l0.length : Int) x17_1 t593 (t593.length : Int) (wrap64 (x25_2 + 1))) = some (r1, r2) := by first | (rw [hji24] at H; exact H) | (simp only [hji24] at H ⊢; exact H)
                  have hji24_ : (if (rd x4_2 x17_1) < (wrap64 ((rd x4_2 (rd t593 x25_2)) + 1)) then (wrap64 ((rd x4_2 (rd t593 x25_2)) + 1)) else (rd x4_2 x17_1)) = ji24 := hji24
                  obtain ⟨y599, hy599⟩ : ∃ y_ : List Int, y_ = (x4_2.set (x17_1 : Int).toNat (ji24)) := ⟨_, rfl⟩
                  replace H : (impl_DepthOf.l1 k2 l0 y599 x17_1 l0 (l0.length : Int) x17_1 t593 (t593.length : Int) (wrap64 (x25_2 + 1))) = some (r1, r2) := by have hy_ := hy599; exact xH
                  have Ny599 := zK hy599
                  clear hy599
                  have H' := zK H
                  clear H
                  have p596 : 0 ≤ (x25_2 : Int) := zo
                  have q596 : x25_2 < (t593.length : Int) := zo
                  obtain ⟨ad596, e596, hx596_0⟩ := Kd.at_int (Kd.R_reads' HO_23.out).2.2 x25_2 p596 q596
                  cases e596
                  replace p596 := eq_true p596
                  replace q596 := eq_true q596
                  try go_wp2
                  have n0_ := zK (Kd.R_drew HO_4.out)
                  have n1_ := zK (Kd.R_drew HO_23.out)
                  have n2_ := zK (zF BK592.out)
                  have n3_ := zK (zC HB.out)
                  clear HO_4
                  clear HO_23
                  clear BK592
                  clear HB
                  have HO_4 := n0_
                  have HO_23 := n1_
                  have BK592 := n2_
                  have HB := n3_
                  clear n0_ n1_ n2_ n3_
                  obtain ⟨Ao27, co27, eo27⟩ := Kd.R_slice HO_4.out
                  (first | subst eo27 | (injection eo27 with f1_ f2_ f3_; have f4_ := f1_.symm; have f5_ := f3_.symm; clear f1_ f2_ f3_; subst f4_; subst f5_))
                  have p597 : 0 ≤ (x17_1 : Int) := zo
                  have q597 : x17_1 < (x4_2.length : Int) := zo
                  obtain ⟨ad597, e597, hx597_0⟩ := Kd.at_int (Kd.R_reads' HO_4.out).2.2 x17_1 p597 q597
                  cases e597
                  replace p597 := eq_true p597
                  replace q597 := eq_true q597
                  have p598 : 0 ≤ ((rd t593 x25_2) : Int) := zo
                  have q598 : (rd t593 x25_2) < (x4_2.length : Int) := zo
                  obtain ⟨ad598, e598, hx598_0⟩ := Kd.at_int (Kd.R_reads' HO_4.out).2.2 (rd t593 x25_2) p598 q598
                  obtain rfl : ad597 = ad598 := (by injection e598)
                  replace p598 := eq_true p598
                  replace q598 := eq_true q598
                  have p25 : 0 ≤ (x17_1 : Int) := zo
                  have q25 : (x17_1 : Int) < ((x4_2.length : Int) : Int) := zo
                  obtain ⟨go25, co25, eo25, gb25, gl25, cl25, HG25⟩ := Kd.R_form HO_4.out (by omega)
                  (first | cases eo25 | (injection eo25 with ea_ en_ ec_; (first | subst ea_ | (injection ea_ with ea_; subst ea_)); subst ec_; clear en_))
                  have GB25 := zK gb25
                  have GG25 := zK HG25
                  clear gb25 gl25 HG25
                  (first | simp only [add_plain] at hx597_0 | skip)
                  (first | simp only [add_plain] at hx598_0 | skip)
                  obtain ⟨hx25_0, hf25_0⟩ := Kd.R_celln 0 HO_4.out (x17_1 : Int) p25 q25
                  replace p25 := eq_true p25
                  replace q25 := eq_true q25
                  have HP28 := Kd.R_putn HO_4.out (x17_1 : Int) ji24
                  rw [← Ny599.out] at HP28
                  have HQ28 := zK HP28
                  clear HP28
                  refine start_ (n := 14) (S := fun w' => w'.cell? ⟨go25, (x17_1).toNat, none⟩ = some (.int .i64 (rd x4_2 x17_1)) ∧ w'.cell? ⟨go25, ((rd t593 x25_2)).toNat, none⟩ = some (.int .i64 (rd x4_2 (rd t593 x25_2)))) (ds := [13]) #[false, false, false, false, false, false, false, false, false, false, false, false, false, false] yi rfl rfl ⟨hx597_0, hx598_0⟩ (fun hHeld => ?_); refine with_tabW impl_DepthOf.tab10 impl_DepthOf.bits10 (fun HT_ HW_ => ?_)
                  generalize wr.drew = w26 at HO_4 HO_23 BK592 HB GG25 HQ28 hf25_0 hx25_0 hx597_0 hx598_0 hHeld ⊢
                  refine pure_ (i := 0) (N := some 29) (v := ?_) (a' := ?_) #[true, false, false, false, false, false, false, false, false, false, false, false, false, false] rfl rfl (any_of HT_.out yi) (fun _ _ _ h => h) (Or.inl ⟨by rfl, ?_⟩) ?_ ?_
                  rotate_left
                  ·intro w'
                   go_simp
                   with_reducible rfl
                  rotate_left
                  ·simp only [Act.put, z1, z2, z3, i64_w, i32_w]
                   rfl
                  refine pure_ (i := 1) (N := some 30) (v := ?_) (a' := ?_) #[true, true, false, false, false, false, false, false, false, false, false, false, false, false] rfl rfl (any_of HT_.out yi) (fun _ _ _ h => h) (Or.inl ⟨by rfl, ?_⟩) ?_ ?_
                  rotate_left
                  ·intro w'
                   go_simp
                   with_reducible rfl
                  rotate_left
                  ·simp only [Act.put, z1, z2, z3, i64_w, i32_w]
                   rfl
                  refine pure_ (i := 2) (N := some 31) (v := ?_) (a' := ?_) #[true, true, true, false, false, false, false, false, false, false, false, false, false, false] rfl rfl (any_of HT_.out yi) (fun _ _ _ h => h) (Or.inl ⟨by rfl, ?_⟩) ?_ ?_
                  rotate_left
                  ·intro w'
                   go_simp
                   with_reducible rfl
                  rotate_left
                  ·simp only [Act.put, z1, z2, z3, i64_w, i32_w]
                   rfl
                  refine pure_ (i := 3) (N := some 32) (v := ?_) (a' := ?_) #[true, true, true, true, false, false, false, false, false, false, false, false, false, false] rfl rfl (any_of HT_.out yi) (fun _ _ _ h => h) (Or.inl ⟨by rfl, ?_⟩) ?_ ?_
                  rotate_left
                  ·intro w'
                   go_simp
                   with_reducible rfl
                  rotate_left
                  ·simp only [Act.put, z1, z2, z3, i64_w, i32_w]
                   rfl
                  refine pure_ (i := 4) (N := some 33) (v := ?_) (a' := ?_) #[true, true, true, true, true, false, false, false, false, false, false, false, false, false] rfl rfl (any_of HT_.out yi) (fun _ _ _ h => h) (Or.inl ⟨by rfl, ?_⟩) ?_ ?_
                  rotate_left
                  ·intro w'
                   go_simp
                   with_reducible rfl
                  rotate_left
                  ·simp only [Act.put, z1, z2, z3, i64_w, i32_w]
                   rfl
                  refine pure_ (i := 6) (N := some 35) (v := ?_) (a' := ?_) #[true, true, true, true, true, false, true, false, false, false, false, false, false, false] rfl rfl (any_of HT_.out yi) (fun _ _ _ h => h) (Or.inl ⟨by rfl, ?_⟩) ?_ ?_
                  rotate_left
                  ·intro w'
                   go_simp
                   with_reducible rfl
                  rotate_left
                  ·simp only [Act.put, z1, z2, z3, i64_w, i32_w]
                   rfl
                  refine pure_ (i := 7) (N := some 36) (v := ?_) (a' := ?_) #[true, true, true, true, true, false, true, true, false, false, false, false, false, false] rfl rfl (any_of HT_.out yi) (fun _ _ _ h => h) (Or.inl ⟨by rfl, ?_⟩) ?_ ?_
                  rotate_left
                  ·intro w'
                   go_simp
                   with_reducible rfl
                  rotate_left
                  ·simp only [Act.put, z1, z2, z3, i64_w, i32_w]
                   rfl
                  refine pure_ (i := 8) (N := some 37) (v := ?_) (a' := ?_) #[true, true, true, true, true, false, true, true, true, false, false, false, false, false] rfl rfl (any_of HT_.out yi) (fun _ _ _ h => h) (Or.inl ⟨by rfl, ?_⟩) ?_ ?_
                  rotate_left
                  ·intro w'
                   go_simp
                   with_reducible rfl
                  rotate_left
                  ·simp only [Act.put, z1, z2, z3, i64_w, i32_w]
                   rfl
                  refine take_ (i := 5) (N := some 34) (v := ?_) (a' := ?_) #[true, true, true, true, true, true, true, true, true, false, false, false, false, false] rfl rfl (take_ofW HT_.out HW_.out yi) (fun _ _ _ h => h) (Or.inl ⟨by rfl, ?_⟩) hHeld ?_ ?_
                  rotate_left
                  ·rintro w' ⟨s0, s1⟩
                   go_simp
                   with_reducible rfl
                  rotate_left
                  ·simp only [Act.put, z1, z2, z3, i64_w, i32_w]
                   rfl
                  refine take_ (i := 9) (N := some 38) (v := ?_) (a' := ?_) #[true, true, true, true, true, true, true, true, true, true, false, false, false, false] rfl rfl (take_ofW HT_.out HW_.out yi) (fun _ _ _ h => h) (Or.inl ⟨by rfl, ?_⟩) hHeld ?_ ?_
                  rotate_left
                  ·rintro w' ⟨s0, s1⟩
                   go_simp
                   with_reducible rfl
                  rotate_left
                  ·simp only [Act.put, z1, z2, z3, i64_w, i32_w]
                   rfl
                  refine pure_ (i := 10) (N := some 39) (v := ?_) (a' := ?_) #[true, true, true, true, true, true, true, true, true, true, true, false, false, false] rfl rfl (any_of HT_.out yi) (fun _ _ _ h => h) (Or.inl ⟨by rfl, ?_⟩) ?_ ?_
                  rotate_left
                  ·intro w'
                   go_simp
                   with_reducible rfl
                  rotate_left
                  ·simp only [Act.put, z1, z2, z3, i64_w, i32_w]
                   rfl
                  refine pure_ (i := 11) (N := some 40) (v := ?_) (a' := ?_) #[true, true, true, true, true, true, true, true, true, true, true, true, false, false] rfl rfl (any_of HT_.out yi) (fun _ _ _ h => h) (Or.inl ⟨by rfl, ?_⟩) ?_ ?_
                  rotate_left
                  ·intro w'
                   go_simp
                   with_reducible rfl
                  rotate_left
                  ·simp only [Act.put, z1, z2, z3, i64_w, i32_w]
                   rfl
                  refine pure_ (i := 12) (N := some 41) (v := ?_) (a' := ?_) #[true, true, true, true, true, true, true, true, true, true, true, true, true, false] rfl rfl (any_of HT_.out yi) (fun _ _ _ h => h) (Or.inl ⟨by rfl, ?_⟩) ?_ ?_
                  rotate_left
                  ·intro w'
                   go_simp
                   with_reducible rfl
                  rotate_left
                  ·simp only [Act.put, z1, z2, z3, i64_w, i32_w]
                   rfl
                  refine last_ (i := 13) (N := none) #[true, true, true, true, true, true, true, true, true, true, true, true, true, true] rfl rfl (one_of HT_.out yi) yp1 (fun K hK => ?_)
                  refine skip_ (w1 := ?_) (by rfl) rfl ?_ ?_
                  rotate_left
                  ·go_simp
                   rfl
                  refine hK.out _ _ ?_
                  clear hK K
                  refine done_ (done_of HT_.out yi) ?_
                  try go_wp2
                  go_roundg k2
                  case measure => have := HK1.out; have := HK2.out; omega
                  case rel => exact ⟨(y599), (wrap64 (x25_2 + 1)), ye, H', ⟨yx⟩, ⟨yR HQ28.out⟩, ⟨by (with_reducible repeat (first | apply Kd.R_alloc | apply Kd.R_drewN | apply Kd.R_drew)); exact Kd.R_mono (Kd.R_far (p := ⟨go25, (x17_1 : Int).toNat, none⟩) (Kd.R_mono HO_23.out (fun k_ hk => (⟨hk, fun e_ => hk (by rw [e_]; rfl)⟩ : _ ∧ k_ ≠ go25))) (fun _ hk => hk.2) (.int .i64 ji24)) (fun _ hk => hk.1)⟩, ⟨by (with_reducible repeat (first | refine zE ?_ _ | refine zF ?_ | refine zG ?_ _)); refine blk_far ?_ (by have h_ := Kd.R_ne HO_4.out BK592.out yp1; intro e_; exact h_ (by rw [e_]; rfl)) _; (with_reducible repeat (first | refine zE ?_ _ | refine zF ?_ | refine zG ?_ _)); exact BK592.out⟩, ⟨by repeat (first | (with_reducible first | exact HB.out | apply zA | apply zB | apply zC | refine zD ?_ GB25.out | refine zD ?_ GE592.out) | exact HB.out)⟩⟩
                 ·rw [if_neg c23] at H
                  exact absurd H ye1
                ·rw [if_neg c22] at H
                 exact absurd H ye1
               ·rw [if_neg c21] at H
                exact absurd H ye1
              ·rw [if_neg c20] at H
               exact absurd H ye1
             ·rw [if_neg c19] at H
              exact absurd H ye1
            ·rw [if_neg c18] at H
             exact absurd H ye1
           ·rw [if_neg c17] at H
            have c17b0 : decide (x25_2 < (t593.length : Int)) = false := decide_eq_false c17
            clear c17
            have H' := zK H
            clear H
            go_wp2
            go_roundg k2
            case measure => have := HK1.out; have := HK2.out; omega
            case rel => exact ⟨(x4_2), (wrap64 (x17_1 + 1)), ye, H', ⟨yx⟩, ⟨by (with_reducible repeat (first | apply Kd.R_alloc | apply Kd.R_drewN | apply Kd.R_drew)); exact Kd.R_mono HO_4.out (fun _ hk => trivial)⟩, ⟨by repeat (first | (with_reducible first | exact HB.out | apply zA | apply zB | apply zC | refine zD ?_ GE592.out) | exact HB.out)⟩⟩
        ·rw [if_neg c11] at H
         exact absurd H ye1
       ·rw [if_neg c10] at H
        exact absurd H ye1
      ·rw [if_neg c9] at H
       have c9b0 : decide (x17_1 < (l0.length : Int)) = false := decide_eq_false c9
       clear c9
       obtain ⟨ji29, hji29⟩ : ∃ j_ : Int, (wrap64 ((l0.length : Int) - 1)) = j_ := ⟨_, rfl⟩
       replace H : (if 0 ≤ (ji29) then (if (ji29) < (x4_1.length : Int) then (some (rd x4_1 (ji29), true)) else (none)) else (none)) = some (r1, r2) := by first | (rw [hji29] at H; exact H) | (simp only [hji29] at H ⊢; exact H)
       have hji29w : (IntKind.i64.wrap ((l0.length : Int) - 1)) = ji29 := (i64_w _).trans hji29
       by_cases c30 : 0 ≤ (ji29)
       ·rw [if_pos c30] at H
        have c30b0 : decide (0 ≤ (ji29)) = true := decide_eq_true c30
        clear c30
        by_cases c31 : (ji29) < (x4_1.length : Int)
        ·rw [if_pos c31] at H
         have c31b0 : decide ((ji29) < (x4_1.length : Int)) = true := decide_eq_true c31
         clear c31
         simp only [Option.some.injEq, Prod.mk.injEq] at H
         obtain ⟨rfl, rfl⟩ := H
         obtain ⟨Ao32, co32, eo32⟩ := Kd.R_slice HO_4.out
         subst eo32
         have p590 : 0 ≤ ((ji29) : Int) := zo
         have q590 : (ji29) < (x4_1.length : Int) := zo
         obtain ⟨ad590, e590, hx590_0⟩ := Kd.at_int (Kd.R_reads' HO_4.out).2.2 (ji29) p590 q590
         cases e590
         replace p590 := eq_true p590
         replace q590 := eq_true q590
         go_wp2
         go_ret2
         exact ⟨by first | rfl | (simp [errW_none, errW_some] <;> rfl) | (simp only [← hji29]; first | rfl | (simp [errW_none, errW_some] <;> rfl)) | (simp [*, errW_none, errW_some] <;> rfl), ya⟩
        ·rw [if_neg c31] at H
         exact absurd H ye1
       ·rw [if_neg c30] at H
        exact absurd H ye1
   ·rw [if_neg c5] at H
    exact absurd H ye1
  ·rw [if_neg c4] at H
   exact absurd H ye1
 ·replace c3 := Bool.eq_false_iff.mpr c3
  subst c3
  rw [if_neg (show ¬ (false = true) by decide)] at H
  simp only [Option.some.injEq, Prod.mk.injEq] at H
  obtain ⟨rfl, rfl⟩ := H
  go_enter Try.func43, Try.ntmps43
  go_wp2_with (first | ((with_reducible refine gate_callee (f := 20) rfl ?_); refine goesL_ (some 10) rfl rfl Try.func20 yi rfl #[.slice A0 l0.length c0] rfl yb ?_; (with_reducible refine (impl_IsExpr.calls k _ _ l0 false _ ?side1 ?side2 A2.out).mono ?_); (case side1 => exact xxc); (case side2 => exact HC0.out); rintro e w33 ⟨rfl, hb⟩; refine ⟨_, rfl, ?_⟩; have n0_ := zK (zL ya hb); clear HB; have HB := n0_; clear n0_; (try clear hb); (try clear hb2); (try clear hk); (try clear hi)))
  go_ret2
  exact ⟨yd, ya⟩

/-! ### spec_l1Most: function 89 -/
def spec_l1Most.f (a0 : Int) (a1 : Int) : Option (Int) := if a0 > a1 then (some a0) else (some a1)
set_option maxHeartbeats 8000000 in
set_option maxRecDepth 100000 in
theorem spec_l1Most.calls (a0 : Int) (a1 : Int) (r : Int) (w : World) (h : spec_l1Most.f a0 a1 = some r) :
  Calls Try.prog 89 #[.int .i64 a0, .int .i64 a1] w fun e w' => e = .returned (.int .i64 r) ∧ Drawn0 w w' := by
 have H : (if a0 > a1 then (some a0) else (some a1)) = some r := h
 clear h
 by_cases c3 : a0 > a1
 ·rw [if_pos c3] at H
  have c3b0 : decide (a1 < a0) = true := decide_eq_true c3
  clear c3
  obtain rfl := Option.some.inj H
  go_enter Try.func89, Try.ntmps89
  go_wp2
  go_ret
  exact ⟨ye, yg⟩
 ·rw [if_neg c3] at H
  have c3b0 : decide (a1 < a0) = false := decide_eq_false c3
  clear c3
  obtain rfl := Option.some.inj H
  go_enter Try.func89, Try.ntmps89
  go_wp2
  go_ret
  exact ⟨ye, yg⟩

/-! ### spec_DepthOf: function 44 -/
mutual
def spec_DepthOf.l0 : Nat → List (S47) → List Int → List (S47) → Int → Int → Option (Int × Bool)
 | 0, _, _, _, _, _ => none
 | k + 1, x0, x4, x15, x16, x17 => if x17 < x16 then (if 0 ≤ x17 then (if x17 < (x15.length : Int) then ((spec_exParts.f k ((rd_T47 x15 x17).f0) ((rd_T47 x15 x17).f1) ((rd_T47 x15 x17).f2) ((rd_T47 x15 x17).f3)).bind fun t607 => (spec_DepthOf.l1 k x0 x4 x17 x15 x16 x17 t607 (t607.length : Int) 0)) else (none)) else (none)) else (if 0 ≤ (wrap64 ((x0.length : Int) - 1)) then (if (wrap64 ((x0.length : Int) - 1)) < (x4.length : Int) then (some (rd x4 (wrap64 ((x0.length : Int) - 1)), true)) else (none)) else (none))
def spec_DepthOf.l1 : Nat → List (S47) → List Int → Int → List (S47) → Int → Int → List Int → Int → Int → Option (Int × Bool)
 | 0, _, _, _, _, _, _, _, _, _ => none
 | k + 1, x0, x4, x5, x15, x16, x17, x23, x24, x25 => if x25 < x24 then (if 0 ≤ x25 then (if x25 < (x23.length : Int) then (if 0 ≤ x5 then (if x5 < (x4.length : Int) then (if 0 ≤ (rd x23 x25) then (if (rd x23 x25) < (x4.length : Int) then ((spec_l1Most.f (rd x4 x5) (wrap64 ((rd x4 (rd x23 x25)) + 1))).bind fun t613 => (spec_DepthOf.l1 k x0 (x4.set (x5 : Int).toNat t613) x5 x15 x16 x17 x23 x24 (wrap64 (x25 + 1)))) else (none)) else (none)) else (none)) else (none)) else (none)) else (none)) else (spec_DepthOf.l0 k x0 x4 x15 x16 (wrap64 (x17 + 1)))
end
def spec_DepthOf.f (k : Nat) (l0 : List (S47)) : Option (Int × Bool) := (spec_exGood.f k l0).bind fun t600 => (if t600 = true then (if 0 ≤ (l0.length : Int) then (if ((l0.length : Int) : Int).toNat ≤ 35184372088832 then (spec_DepthOf.l0 k l0 (List.replicate ((l0.length : Int) : Int).toNat 0) l0 (l0.length : Int) 0) else (none)) else (none)) else (some (0, false)))
def spec_DepthOf.T10 : Bool × List (List Nat × List Nat) := (true, [([], []), ([], []), ([], []), ([], []), ([2, 3], [2, 3]), ([4], [4]), ([], []), ([], []), ([6, 7], [6, 7]), ([8], [8]), ([9], [9]), ([5, 10], [5, 10]), ([0, 1, 0, 1, 2, 3, 4, 5, 6, 7, 8, 9, 10, 11], [0, 1]), ([12, 11, 11, 0, 1, 2, 3, 4, 5, 6, 7, 8, 9, 10, 11], [11, 12])])
def spec_DepthOf.B10 : List Nat := [0, 0, 0, 0, 12, 28, 0, 0, 192, 448, 960, 2044, 4095, 8191]
theorem spec_DepthOf.tab10 : rtab .any (opsOf Try.f44 10) = spec_DepthOf.T10 := by kernel_rfl
theorem spec_DepthOf.bits10 : waitsOk spec_DepthOf.T10.2 spec_DepthOf.B10 = true := by kernel_rfl
set_option maxHeartbeats 8000000 in
set_option maxRecDepth 100000 in
theorem spec_DepthOf.calls (k : Nat) (A0 : Option Addr) (c0 : Nat) (l0 : List (S47)) (r1 : Int) (r2 : Bool) (w : World) (hr0 : Kd.C k47 w A0 l0.length l0) (hc0 : l0.length ≤ c0) (h : spec_DepthOf.f k l0 = some (r1, r2)) :
  Calls Try.prog 44 #[.slice A0 l0.length c0] w fun e w' => e = .returned (.tuple #[.int .i64 r1, .bool r2]) ∧ Below w.heap.size w w' := by
 have hu47 := Try.underlying47
 have HR0 := zK hr0
 have HC0 := zK hc0
 clear hr0 hc0
 have HB := zK (Below.refl w.heap.size w)
 have H : ((spec_exGood.f k l0).bind fun t600 => (if t600 = true then (if 0 ≤ (l0.length : Int) then (if ((l0.length : Int) : Int).toNat ≤ 35184372088832 then (spec_DepthOf.l0 k l0 (List.replicate ((l0.length : Int) : Int).toNat 0) l0 (l0.length : Int) 0) else (none)) else (none)) else (some (0, false)))) = some (r1, r2) := h
 clear h
 replace H := Option.bind_eq_some_iff.mp H
 obtain ⟨t600, A20, H⟩ := H
 replace H : (if t600 = true then (if 0 ≤ (l0.length : Int) then (if ((l0.length : Int) : Int).toNat ≤ 35184372088832 then (spec_DepthOf.l0 k l0 (List.replicate ((l0.length : Int) : Int).toNat 0) l0 (l0.length : Int) 0) else (none)) else (none)) else (some (0, false))) = some (r1, r2) := H
 have A2 := zK A20
 clear A20
 by_cases c3 : t600 = true
 ·subst c3
  rw [if_pos rfl] at H
  by_cases c4 : 0 ≤ (l0.length : Int)
  ·rw [if_pos c4] at H
   have c4b0 := eq_true c4
   have c4b1 : decide (0 ≤ (l0.length : Int)) = true := decide_eq_true c4
   clear c4
   by_cases c5 : ((l0.length : Int) : Int).toNat ≤ 35184372088832
   ·rw [if_pos c5] at H
    have c5b0 := eq_true c5
    have c5b1 : decide (((l0.length : Int) : Int).toNat ≤ 35184372088832) = true := decide_eq_true c5
    clear c5
    obtain ⟨y601, hy601⟩ : ∃ y_ : List Int, y_ = (List.replicate ((l0.length : Int) : Int).toNat 0) := ⟨_, rfl⟩
    replace H : (spec_DepthOf.l0 k l0 y601 l0 (l0.length : Int) 0) = some (r1, r2) := by have hy_ := hy601; exact xH
    have Ny601 := zK hy601
    clear hy601
    have H' := zK H
    clear H
    go_enter Try.func44, Try.ntmps44
    go_wp2_with (first | ((with_reducible refine gate_callee (f := 60) rfl ?_); refine goesL_ (some 10) rfl rfl Try.func60 yi rfl #[.slice A0 l0.length c0] rfl yb ?_; (with_reducible refine (spec_exGood.calls k _ _ l0 true _ ?side1 ?side2 A2.out).mono ?_); (case side1 => exact xxc); (case side2 => exact HC0.out); rintro e w6 ⟨rfl, hb⟩; refine ⟨_, rfl, ?_⟩; have n0_ := zK (zL ya hb); clear HB; have HB := n0_; clear n0_; (try clear hb); (try clear hb2); (try clear hk); (try clear hi)) | ((with_reducible refine gate_dst (N := 14) rfl ?_); refine Kd.R_make (Kd.int .i64) _ 3 rfl (N := 14) rfl 31 _ _ rfl (l0.length : Int) rfl rfl Try.underlying31 (.int .i64 0) 8 info3 rfl yp1 (by omega) 0 (ok := fun _ => True) (okp := fun _ => True) rfl (fun _ hk => hk) trivial (zo) (Nat.le_trans (Nat.mul_le_mul_right _ (zo : (l0.length : Int).toNat ≤ 35184372088832)) (by omega)) (Below.refl _ _) (Nat.le_refl _) ?_; intro v602 w7 ho8 hb hg_ hnew_; clear hg_ hnew_; (first | rw [← Ny601.out] at ho8 | (simp only [Int.reduceToNat] at ho8; rw [← Ny601.out] at ho8)); have n0_ := zK (Kd.R_lower ho8 (zN ya)); have n1_ := zK (zL ya hb); clear HB; have HO603 := n0_; have HB := n1_; clear n0_ n1_; clear hb ho8))
    go_loopg [17] k (fun kq v17 w' => ∃ (x4_1 : List Int) (x17_1 : Int), v17 = .int .i64 x17_1 ∧ Aside0 (spec_DepthOf.l0 kq l0 x4_1 l0 (l0.length : Int) x17_1 = some (r1, r2)) ∧ Aside0 (kq ≤ k) ∧ Aside0 (Kd.R (Kd.int .i64) 3 w' w.heap.size (fun _ => True) v602 x4_1) ∧ Aside0 (Below w.heap.size w w'))
    case atStart => exact ⟨(y601), (0), ye, H', ⟨Nat.le_refl _⟩, ⟨yR HO603.out⟩, ⟨ya⟩⟩
    case round =>
     clear H'
     try clear p2
     try clear c3
     try clear c4
     try clear c4b0
     try clear c4b1
     try clear c5
     try clear c5b0
     try clear c5b1
     try clear c6
     obtain ⟨x4_1, x17_1, rfl, HA, HK1, HO_4, HB⟩ := hrel
     cases gk with
     | zero => exact absurd HA.out (by simp [spec_DepthOf.l0])
     | succ k1 =>
      have H := HA.out
      clear HA
      simp only [spec_DepthOf.l0] at H
      by_cases c9 : x17_1 < (l0.length : Int)
      ·rw [if_pos c9] at H
       have c9b0 : decide (x17_1 < (l0.length : Int)) = true := decide_eq_true c9
       clear c9
       by_cases c10 : 0 ≤ x17_1
       ·rw [if_pos c10] at H
        have c10b0 : decide (0 ≤ x17_1) = true := decide_eq_true c10
        clear c10
        by_cases c11 : x17_1 < (l0.length : Int)
        ·rw [if_pos c11] at H
         have c11b0 : decide (x17_1 < (l0.length : Int)) = true := decide_eq_true c11
         clear c11
         replace H := Option.bind_eq_some_iff.mp H
         obtain ⟨t607, A120, H⟩ := H
         replace H : (spec_DepthOf.l1 k1 l0 x4_1 x17_1 l0 (l0.length : Int) x17_1 t607 (t607.length : Int) 0) = some (r1, r2) := H
         have A12 := zK A120
         clear A120
         have H' := zK H
         clear H
         have p605 : 0 ≤ (x17_1 : Int) := zo
         have q605 : x17_1 < (l0.length : Int) := zo
         obtain ⟨ad605, e605, hx605_0, hx605_1, hx605_2, hx605_3⟩ := at_T47 HR0.out x17_1 p605 q605
         cases e605
         replace hx605_0 := zt HB.out hx605_0
         replace hx605_1 := zt HB.out hx605_1
         replace hx605_2 := zt HB.out hx605_2
         replace hx605_3 := zt HB.out hx605_3
         replace p605 := eq_true p605
         replace q605 := eq_true q605
         go_wp2_with (first | ((with_reducible refine gate_dst (N := 6) rfl ?_); refine box_event ?hg (N := 6) ?hd (cs := #[.string (⟨#[]⟩ : ByteArray), .int .i64 0, .int .i64 0, .int .i64 0]) (t := 47) ?hr ?_; (case hd | hg => rfl); (case hr => exact xxa); intro gb606 hg w13 hbox hb; have n0_ := zK (Kd.R_below yi1 hb); have n1_ := zK (zL ya hb); have n2_ := zK (hbox); have n3_ := zK ((by rw [hg]; exact (zN ya) : w.heap.size ≤ gb606)); have n4_ := n3_; clear HO_4; clear HB; have HO_4 := n0_; have HB := n1_; have BK606 := n2_; have GW606 := n3_; have GE606 := n4_; clear n0_ n1_ n2_ n3_ n4_; clear hb hbox hg; have hcz14_0 : w13.cell? ⟨gb606, 0, none⟩ = some (.string (⟨#[]⟩ : ByteArray)) := (zI BK606.out 0).trans rfl; have hcz14_1 : w13.cell? ⟨gb606, 1, none⟩ = some (.int .i64 0) := (zI BK606.out 1).trans rfl; have hcz14_2 : w13.cell? ⟨gb606, 2, none⟩ = some (.int .i64 0) := (zI BK606.out 2).trans rfl; have hcz14_3 : w13.cell? ⟨gb606, 3, none⟩ = some (.int .i64 0) := (zI BK606.out 3).trans rfl; have hfz14_0 := zH BK606.out 0; have hfz14_1 := zH BK606.out 1; have hfz14_2 := zH BK606.out 2; have hfz14_3 := zH BK606.out 3) | ((with_reducible refine gate_callee (f := 101) rfl ?_); refine goesL_ (some 23) rfl rfl Try.func101 yi rfl #[.agg #[.string ((rd_T47 l0 x17_1).f0), .int .i64 ((rd_T47 l0 x17_1).f1), .int .i64 ((rd_T47 l0 x17_1).f2), .int .i64 ((rd_T47 l0 x17_1).f3)]] rfl yb ?_; (with_reducible refine (spec_exParts.calls k1 ((rd_T47 l0 x17_1).f0) ((rd_T47 l0 x17_1).f1) ((rd_T47 l0 x17_1).f2) ((rd_T47 l0 x17_1).f3) t607 _ A12.out).mono ?_); rintro e w15 ⟨v608, rfl, ho0, hb⟩; refine ⟨_, rfl, ?_⟩; have n0_ := zK (Kd.R_elder' (by (with_reducible repeat (first | apply Kd.R_alloc | apply Kd.R_drewN | apply Kd.R_drew)); exact (Kd.R_mono (Kd.R_far (p := ⟨gb606, 3, none⟩) (Kd.R_far (p := ⟨gb606, 2, none⟩) (Kd.R_far (p := ⟨gb606, 1, none⟩) (Kd.R_far (p := ⟨gb606, 0, none⟩) (Kd.R_types HO_4.out BK606.out yp1) (fun _ hk => hk.2) (.string ((rd_T47 l0 x17_1).f0))) (fun _ hk => hk.2) (.int .i64 ((rd_T47 l0 x17_1).f1))) (fun _ hk => hk.2) (.int .i64 ((rd_T47 l0 x17_1).f2))) (fun _ hk => hk.2) (.int .i64 ((rd_T47 l0 x17_1).f3))) (fun _ h_ => h_.1))) (Kd.R_base ho0) hb); have n1_ := zK (Kd.R_lower (Kd.R_new' ho0 (Kd.R_lt (by (with_reducible repeat (first | apply Kd.R_alloc | apply Kd.R_drewN | apply Kd.R_drew)); exact (Kd.R_mono (Kd.R_far (p := ⟨gb606, 3, none⟩) (Kd.R_far (p := ⟨gb606, 2, none⟩) (Kd.R_far (p := ⟨gb606, 1, none⟩) (Kd.R_far (p := ⟨gb606, 0, none⟩) (Kd.R_types HO_4.out BK606.out yp1) (fun _ hk => hk.2) (.string ((rd_T47 l0 x17_1).f0))) (fun _ hk => hk.2) (.int .i64 ((rd_T47 l0 x17_1).f1))) (fun _ hk => hk.2) (.int .i64 ((rd_T47 l0 x17_1).f2))) (fun _ hk => hk.2) (.int .i64 ((rd_T47 l0 x17_1).f3))) (fun _ h_ => h_.1))))) (zN (by repeat (first | (with_reducible first | exact HB.out | apply zA | apply zB | apply zC | refine zD ?_ GE606.out) | exact HB.out)))); have n2_ := zK (zM (g := gb606) (o := .cells #[.string ((rd_T47 l0 x17_1).f0), .int .i64 ((rd_T47 l0 x17_1).f1), .int .i64 ((rd_T47 l0 x17_1).f2), .int .i64 ((rd_T47 l0 x17_1).f3)] 47 (0, 0)) (by (with_reducible repeat (first | refine zE ?_ _ | refine zF ?_ | refine zG ?_ _)); refine blk_put (cs := #[.string ((rd_T47 l0 x17_1).f0), .int .i64 ((rd_T47 l0 x17_1).f1), .int .i64 ((rd_T47 l0 x17_1).f2), .int .i64 0]) ?_ 3 _ rfl; (with_reducible repeat (first | refine zE ?_ _ | refine zF ?_ | refine zG ?_ _)); refine blk_put (cs := #[.string ((rd_T47 l0 x17_1).f0), .int .i64 ((rd_T47 l0 x17_1).f1), .int .i64 0, .int .i64 0]) ?_ 2 _ rfl; (with_reducible repeat (first | refine zE ?_ _ | refine zF ?_ | refine zG ?_ _)); refine blk_put (cs := #[.string ((rd_T47 l0 x17_1).f0), .int .i64 0, .int .i64 0, .int .i64 0]) ?_ 1 _ rfl; (with_reducible repeat (first | refine zE ?_ _ | refine zF ?_ | refine zG ?_ _)); refine blk_put (cs := #[.string (⟨#[]⟩ : ByteArray), .int .i64 0, .int .i64 0, .int .i64 0]) ?_ 0 _ rfl; (with_reducible repeat (first | refine zE ?_ _ | refine zF ?_ | refine zG ?_ _)); exact BK606.out) hb); have n3_ := zK (zL (by repeat (first | (with_reducible first | exact HB.out | apply zA | apply zB | apply zC | refine zD ?_ GE606.out) | exact HB.out)) hb); clear HO_4; clear BK606; clear HB; have HO_4 := n0_; have HO609 := n1_; have BK606 := n2_; have HB := n3_; clear n0_ n1_ n2_ n3_; (try clear hb); (try clear hb2); (try clear hk); (try clear hi); (try clear ho0); obtain ⟨Ao16, co16, eo16⟩ := Kd.R_slice HO609.out; subst eo16))
         go_loopg [25] k1 (fun kq v25 w' => ∃ (x4_2 : List Int) (x25_2 : Int), v25 = .int .i64 x25_2 ∧ Aside0 (spec_DepthOf.l1 kq l0 x4_2 x17_1 l0 (l0.length : Int) x17_1 t607 (t607.length : Int) x25_2 = some (r1, r2)) ∧ Aside0 (kq ≤ k1) ∧ Aside0 (Kd.R (Kd.int .i64) 3 w' w.heap.size (fun k_ => some k_ ≠ ((.slice Ao16 t607.length co16) : Value).ownBlock) v602 x4_2) ∧ Aside0 (Kd.R (Kd.int .i64) 3 w' w.heap.size (fun k_ => some k_ ≠ (v602 : Value).ownBlock) (.slice Ao16 t607.length co16) t607) ∧ Aside0 (w'.heap[gb606]? = some (.cells #[.string ((rd_T47 l0 x17_1).f0), .int .i64 ((rd_T47 l0 x17_1).f1), .int .i64 ((rd_T47 l0 x17_1).f2), .int .i64 ((rd_T47 l0 x17_1).f3)] 47 (0, 0))) ∧ Aside0 (Below w.heap.size w w'))
         case atStart => exact ⟨(x4_1), (0), ye, H', ⟨Nat.le_refl _⟩, ⟨by (with_reducible repeat (first | apply Kd.R_alloc | apply Kd.R_drewN | apply Kd.R_drew)); exact Kd.R_mono HO_4.out (fun _ hk => hk.2)⟩, ⟨by (with_reducible repeat (first | apply Kd.R_alloc | apply Kd.R_drewN | apply Kd.R_drew)); exact Kd.R_mono HO609.out (fun _ hk => hk.2)⟩, ⟨yS BK606.out⟩, ⟨by repeat (first | (with_reducible first | exact HB.out | apply zA | apply zB | apply zC | refine zD ?_ GE606.out) | exact HB.out)⟩⟩
         case round =>
          clear H'
          try clear c1
          try clear p2
          try clear c3
          try clear c4
          try clear c4b0
          try clear c4b1
          try clear c5
          try clear c5b0
          try clear c5b1
          try clear c6
          try clear p6
          try clear q6
          try clear hx6
          try clear c9
          try clear c9b0
          try clear c10
          try clear c10b0
          try clear c11
          try clear c11b0
          try clear hcz14_0
          try clear hcz14_1
          try clear hcz14_2
          try clear hcz14_3
          try clear hfz14_0
          try clear hfz14_1
          try clear hfz14_2
          try clear hfz14_3
          try clear hx605_0
          try clear hx605_1
          try clear hx605_2
          try clear hx605_3
          try clear p2
          try clear p605
          try clear q605
          obtain ⟨x4_2, x25_2, rfl, HA, HK2, HO_4, HO_23, BK606, HB⟩ := hrel
          cases gk with
          | zero => exact absurd HA.out (by simp [spec_DepthOf.l1])
          | succ k2 =>
           have H := HA.out
           clear HA
           simp only [spec_DepthOf.l1] at H
           by_cases c17 : x25_2 < (t607.length : Int)
           ·rw [if_pos c17] at H
            have c17b0 : decide (x25_2 < (t607.length : Int)) = true := decide_eq_true c17
            clear c17
            by_cases c18 : 0 ≤ x25_2
            ·rw [if_pos c18] at H
             have c18b0 : decide (0 ≤ x25_2) = true := decide_eq_true c18
             clear c18
             by_cases c19 : x25_2 < (t607.length : Int)
             ·rw [if_pos c19] at H
              have c19b0 : decide (x25_2 < (t607.length : Int)) = true := decide_eq_true c19
              clear c19
              by_cases c20 : 0 ≤ x17_1
              ·rw [if_pos c20] at H
               have c20b0 : decide (0 ≤ x17_1) = true := decide_eq_true c20
               clear c20
               by_cases c21 : x17_1 < (x4_2.length : Int)
               ·rw [if_pos c21] at H
                have c21b0 : decide (x17_1 < (x4_2.length : Int)) = true := decide_eq_true c21
                clear c21
                by_cases c22 : 0 ≤ (rd t607 x25_2)
                ·rw [if_pos c22] at H
                 have c22b0 : decide (0 ≤ (rd t607 x25_2)) = true := decide_eq_true c22
                 clear c22
                 by_cases c23 : (rd t607 x25_2) < (x4_2.length : Int)
                 ·rw [if_pos c23] at H
                  have c23b0 : decide ((rd t607 x25_2) < (x4_2.length : Int)) = true := decide_eq_true c23
                  clear c23
                  replace H := Option.bind_eq_some_iff.mp H
                  obtain ⟨t613, A240, H⟩ := H
                  replace H : (spec_DepthOf.l1 k2 l0 (x4_2.set (x17_1 : Int).toNat t613) x17_1 l0 (l0.length : Int) x17_1 t607 (t607.length : Int) (wrap64 (x25_2 + 1))) = some (r1, r2) := H
                  have A24 := zK A240
                  clear A240
                  obtain ⟨y614, hy614⟩ : ∃ y_ : List Int, y_ = (x4_2.set (x17_1 : Int).toNat t613) := ⟨_, rfl⟩
                  replace H : (spec_DepthOf.l1 k2 l0 y614 x17_1 l0 (l0.length : Int) x17_1 t607 (t607.length : Int) (wrap64 (x25_2 + 1))) = some (r1, r2) := by have hy_ := hy614; exact xH
                  have Ny614 := zK hy614
                  clear hy614
                  have H' := zK H
                  clear H
                  have p610 : 0 ≤ (x25_2 : Int) := zo
                  have q610 : x25_2 < (t607.length : Int) := zo
                  obtain ⟨ad610, e610, hx610_0⟩ := Kd.at_int (Kd.R_reads' HO_23.out).2.2 x25_2 p610 q610
                  cases e610
                  replace p610 := eq_true p610
                  replace q610 := eq_true q610
                  try go_wp2
                  have n0_ := zK (Kd.R_drew HO_4.out)
                  have n1_ := zK (Kd.R_drew HO_23.out)
                  have n2_ := zK (zF BK606.out)
                  have n3_ := zK (zC HB.out)
                  clear HO_4
                  clear HO_23
                  clear BK606
                  clear HB
                  have HO_4 := n0_
                  have HO_23 := n1_
                  have BK606 := n2_
                  have HB := n3_
                  clear n0_ n1_ n2_ n3_
                  obtain ⟨Ao27, co27, eo27⟩ := Kd.R_slice HO_4.out
                  (first | subst eo27 | (injection eo27 with f1_ f2_ f3_; have f4_ := f1_.symm; have f5_ := f3_.symm; clear f1_ f2_ f3_; subst f4_; subst f5_))
                  have p611 : 0 ≤ (x17_1 : Int) := zo
                  have q611 : x17_1 < (x4_2.length : Int) := zo
                  obtain ⟨ad611, e611, hx611_0⟩ := Kd.at_int (Kd.R_reads' HO_4.out).2.2 x17_1 p611 q611
                  cases e611
                  replace p611 := eq_true p611
                  replace q611 := eq_true q611
                  have p612 : 0 ≤ ((rd t607 x25_2) : Int) := zo
                  have q612 : (rd t607 x25_2) < (x4_2.length : Int) := zo
                  obtain ⟨ad612, e612, hx612_0⟩ := Kd.at_int (Kd.R_reads' HO_4.out).2.2 (rd t607 x25_2) p612 q612
                  obtain rfl : ad611 = ad612 := (by injection e612)
                  replace p612 := eq_true p612
                  replace q612 := eq_true q612
                  refine start_ (n := 14) (S := fun w' => w'.cell? (ad611.add (x17_1).toNat) = some (.int .i64 (rd x4_2 x17_1)) ∧ w'.cell? (ad611.add ((rd t607 x25_2)).toNat) = some (.int .i64 (rd x4_2 (rd t607 x25_2)))) (ds := [13]) #[false, false, false, false, false, false, false, false, false, false, false, false, false, false] yi rfl rfl ⟨hx611_0, hx612_0⟩ (fun hHeld => ?_); refine with_tabW spec_DepthOf.tab10 spec_DepthOf.bits10 (fun HT_ HW_ => ?_)
                  generalize wr.drew = w26 at HO_4 HO_23 BK606 HB hx611_0 hx612_0 hHeld ⊢
                  refine pure_ (i := 0) (N := some 29) (v := ?_) (a' := ?_) #[true, false, false, false, false, false, false, false, false, false, false, false, false, false] rfl rfl (any_of HT_.out yi) (fun _ _ _ h => h) (Or.inl ⟨by rfl, ?_⟩) ?_ ?_
                  rotate_left
                  ·intro w'
                   go_simp
                   with_reducible rfl
                  rotate_left
                  ·simp only [Act.put, z1, z2, z3, i64_w, i32_w]
                   rfl
                  refine pure_ (i := 1) (N := some 30) (v := ?_) (a' := ?_) #[true, true, false, false, false, false, false, false, false, false, false, false, false, false] rfl rfl (any_of HT_.out yi) (fun _ _ _ h => h) (Or.inl ⟨by rfl, ?_⟩) ?_ ?_
                  rotate_left
                  ·intro w'
                   go_simp
                   with_reducible rfl
                  rotate_left
                  ·simp only [Act.put, z1, z2, z3, i64_w, i32_w]
                   rfl
                  refine pure_ (i := 2) (N := some 31) (v := ?_) (a' := ?_) #[true, true, true, false, false, false, false, false, false, false, false, false, false, false] rfl rfl (any_of HT_.out yi) (fun _ _ _ h => h) (Or.inl ⟨by rfl, ?_⟩) ?_ ?_
                  rotate_left
                  ·intro w'
                   go_simp
                   with_reducible rfl
                  rotate_left
                  ·simp only [Act.put, z1, z2, z3, i64_w, i32_w]
                   rfl
                  refine pure_ (i := 3) (N := some 32) (v := ?_) (a' := ?_) #[true, true, true, true, false, false, false, false, false, false, false, false, false, false] rfl rfl (any_of HT_.out yi) (fun _ _ _ h => h) (Or.inl ⟨by rfl, ?_⟩) ?_ ?_
                  rotate_left
                  ·intro w'
                   go_simp
                   with_reducible rfl
                  rotate_left
                  ·simp only [Act.put, z1, z2, z3, i64_w, i32_w]
                   rfl
                  refine pure_ (i := 4) (N := some 33) (v := ?_) (a' := ?_) #[true, true, true, true, true, false, false, false, false, false, false, false, false, false] rfl rfl (any_of HT_.out yi) (fun _ _ _ h => h) (Or.inl ⟨by rfl, ?_⟩) ?_ ?_
                  rotate_left
                  ·intro w'
                   go_simp
                   with_reducible rfl
                  rotate_left
                  ·simp only [Act.put, z1, z2, z3, i64_w, i32_w]
                   rfl
                  refine pure_ (i := 6) (N := some 35) (v := ?_) (a' := ?_) #[true, true, true, true, true, false, true, false, false, false, false, false, false, false] rfl rfl (any_of HT_.out yi) (fun _ _ _ h => h) (Or.inl ⟨by rfl, ?_⟩) ?_ ?_
                  rotate_left
                  ·intro w'
                   go_simp
                   with_reducible rfl
                  rotate_left
                  ·simp only [Act.put, z1, z2, z3, i64_w, i32_w]
                   rfl
                  refine pure_ (i := 7) (N := some 36) (v := ?_) (a' := ?_) #[true, true, true, true, true, false, true, true, false, false, false, false, false, false] rfl rfl (any_of HT_.out yi) (fun _ _ _ h => h) (Or.inl ⟨by rfl, ?_⟩) ?_ ?_
                  rotate_left
                  ·intro w'
                   go_simp
                   with_reducible rfl
                  rotate_left
                  ·simp only [Act.put, z1, z2, z3, i64_w, i32_w]
                   rfl
                  refine pure_ (i := 8) (N := some 37) (v := ?_) (a' := ?_) #[true, true, true, true, true, false, true, true, true, false, false, false, false, false] rfl rfl (any_of HT_.out yi) (fun _ _ _ h => h) (Or.inl ⟨by rfl, ?_⟩) ?_ ?_
                  rotate_left
                  ·intro w'
                   go_simp
                   with_reducible rfl
                  rotate_left
                  ·simp only [Act.put, z1, z2, z3, i64_w, i32_w]
                   rfl
                  refine take_ (i := 5) (N := some 34) (v := ?_) (a' := ?_) #[true, true, true, true, true, true, true, true, true, false, false, false, false, false] rfl rfl (take_ofW HT_.out HW_.out yi) (fun _ _ _ h => h) (Or.inl ⟨by rfl, ?_⟩) hHeld ?_ ?_
                  rotate_left
                  ·rintro w' ⟨s0, s1⟩
                   go_simp
                   with_reducible rfl
                  rotate_left
                  ·simp only [Act.put, z1, z2, z3, i64_w, i32_w]
                   rfl
                  refine take_ (i := 9) (N := some 38) (v := ?_) (a' := ?_) #[true, true, true, true, true, true, true, true, true, true, false, false, false, false] rfl rfl (take_ofW HT_.out HW_.out yi) (fun _ _ _ h => h) (Or.inl ⟨by rfl, ?_⟩) hHeld ?_ ?_
                  rotate_left
                  ·rintro w' ⟨s0, s1⟩
                   go_simp
                   with_reducible rfl
                  rotate_left
                  ·simp only [Act.put, z1, z2, z3, i64_w, i32_w]
                   rfl
                  refine pure_ (i := 10) (N := some 39) (v := ?_) (a' := ?_) #[true, true, true, true, true, true, true, true, true, true, true, false, false, false] rfl rfl (any_of HT_.out yi) (fun _ _ _ h => h) (Or.inl ⟨by rfl, ?_⟩) ?_ ?_
                  rotate_left
                  ·intro w'
                   go_simp
                   with_reducible rfl
                  rotate_left
                  ·simp only [Act.put, z1, z2, z3, i64_w, i32_w]
                   rfl
                  refine one_ (i := 11) (N := some 40) #[true, true, true, true, true, true, true, true, true, true, true, true, false, false] rfl rfl (one_of HT_.out yi) yp1 (fun K hK => ?_)
                  refine goes_ Try.func89 yi rfl #[.int .i64 (rd x4_2 x17_1), .int .i64 (wrap64 ((rd x4_2 (rd t607 x25_2)) + 1))] (by rfl) rfl rfl yb ?_
                  with_reducible refine (spec_l1Most.calls (rd x4_2 x17_1) (wrap64 ((rd x4_2 (rd t607 x25_2)) + 1)) t613 _ A24.out).mono ?_
                  rintro e w' ⟨rfl, ⟨nd, rfl⟩⟩
                  refine ⟨_, rfl, ?_⟩
                  have p25 : 0 ≤ (x17_1 : Int) := zo
                  have q25 : (x17_1 : Int) < ((x4_2.length : Int) : Int) := zo
                  obtain ⟨go25, co25, eo25, gb25, gl25, cl25, HG25⟩ := Kd.R_form HO_4.out (by omega)
                  (first | cases eo25 | (injection eo25 with ea_ en_ ec_; (first | subst ea_ | (injection ea_ with ea_; subst ea_)); subst ec_; clear en_))
                  have GB25 := zK gb25
                  have GG25 := zK HG25
                  clear gb25 gl25 HG25
                  (first | simp only [add_plain] at hx611_0 | skip)
                  (first | simp only [add_plain] at hx612_0 | skip)
                  obtain ⟨hx25_0, hf25_0⟩ := Kd.R_celln 0 HO_4.out (x17_1 : Int) p25 q25
                  replace p25 := eq_true p25
                  replace q25 := eq_true q25
                  have HP28 := Kd.R_putn HO_4.out (x17_1 : Int) t613
                  rw [← Ny614.out] at HP28
                  have HQ28 := zK HP28
                  clear HP28
                  refine hK.out _ _ ⟨hHeld.1, hHeld.2⟩ (fun hHeld => ?_)
                  clear hK K
                  refine norm_ (a' := ?_) ?_ ?_
                  rotate_left
                  ·show Act.put _ (some 40) _ = _
                   simp only [Act.put, z1, z2, z3, i64_w, i32_w]
                   rfl
                  refine pure_ (i := 12) (N := some 41) (v := ?_) (a' := ?_) #[true, true, true, true, true, true, true, true, true, true, true, true, true, false] rfl rfl (any_of HT_.out yi) (fun _ _ _ h => h) (Or.inl ⟨by rfl, ?_⟩) ?_ ?_
                  rotate_left
                  ·intro w'
                   go_simp
                   with_reducible rfl
                  rotate_left
                  ·simp only [Act.put, z1, z2, z3, i64_w, i32_w]
                   rfl
                  refine last_ (i := 13) (N := none) #[true, true, true, true, true, true, true, true, true, true, true, true, true, true] rfl rfl (one_of HT_.out yi) yp1 (fun K hK => ?_)
                  refine skip_ (w1 := ?_) (by rfl) rfl ?_ ?_
                  rotate_left
                  ·go_simp
                   rfl
                  refine hK.out _ _ ?_
                  clear hK K
                  refine done_ (done_of HT_.out yi) ?_
                  try go_wp2
                  go_roundg k2
                  case measure => have := HK1.out; have := HK2.out; omega
                  case rel => exact ⟨(y614), (wrap64 (x25_2 + 1)), ye, H', ⟨yx⟩, ⟨yR HQ28.out⟩, ⟨by (with_reducible repeat (first | apply Kd.R_alloc | apply Kd.R_drewN | apply Kd.R_drew)); exact Kd.R_mono (Kd.R_far (p := ⟨go25, (x17_1 : Int).toNat, none⟩) (Kd.R_mono HO_23.out (fun k_ hk => (⟨hk, fun e_ => hk (by rw [e_]; rfl)⟩ : _ ∧ k_ ≠ go25))) (fun _ hk => hk.2) (.int .i64 t613)) (fun _ hk => hk.1)⟩, ⟨by (with_reducible repeat (first | refine zE ?_ _ | refine zF ?_ | refine zG ?_ _)); refine blk_far ?_ (by have h_ := Kd.R_ne HO_4.out BK606.out yp1; intro e_; exact h_ (by rw [e_]; rfl)) _; (with_reducible repeat (first | refine zE ?_ _ | refine zF ?_ | refine zG ?_ _)); exact BK606.out⟩, ⟨by repeat (first | (with_reducible first | exact HB.out | apply zA | apply zB | apply zC | refine zD ?_ GB25.out | refine zD ?_ GE606.out) | exact HB.out)⟩⟩
                 ·rw [if_neg c23] at H
                  exact absurd H ye1
                ·rw [if_neg c22] at H
                 exact absurd H ye1
               ·rw [if_neg c21] at H
                exact absurd H ye1
              ·rw [if_neg c20] at H
               exact absurd H ye1
             ·rw [if_neg c19] at H
              exact absurd H ye1
            ·rw [if_neg c18] at H
             exact absurd H ye1
           ·rw [if_neg c17] at H
            have c17b0 : decide (x25_2 < (t607.length : Int)) = false := decide_eq_false c17
            clear c17
            have H' := zK H
            clear H
            go_wp2
            go_roundg k2
            case measure => have := HK1.out; have := HK2.out; omega
            case rel => exact ⟨(x4_2), (wrap64 (x17_1 + 1)), ye, H', ⟨yx⟩, ⟨by (with_reducible repeat (first | apply Kd.R_alloc | apply Kd.R_drewN | apply Kd.R_drew)); exact Kd.R_mono HO_4.out (fun _ hk => trivial)⟩, ⟨by repeat (first | (with_reducible first | exact HB.out | apply zA | apply zB | apply zC | refine zD ?_ GE606.out) | exact HB.out)⟩⟩
        ·rw [if_neg c11] at H
         exact absurd H ye1
       ·rw [if_neg c10] at H
        exact absurd H ye1
      ·rw [if_neg c9] at H
       have c9b0 : decide (x17_1 < (l0.length : Int)) = false := decide_eq_false c9
       clear c9
       obtain ⟨ji29, hji29⟩ : ∃ j_ : Int, (wrap64 ((l0.length : Int) - 1)) = j_ := ⟨_, rfl⟩
       replace H : (if 0 ≤ (ji29) then (if (ji29) < (x4_1.length : Int) then (some (rd x4_1 (ji29), true)) else (none)) else (none)) = some (r1, r2) := by first | (rw [hji29] at H; exact H) | (simp only [hji29] at H ⊢; exact H)
       have hji29w : (IntKind.i64.wrap ((l0.length : Int) - 1)) = ji29 := (i64_w _).trans hji29
       by_cases c30 : 0 ≤ (ji29)
       ·rw [if_pos c30] at H
        have c30b0 : decide (0 ≤ (ji29)) = true := decide_eq_true c30
        clear c30
        by_cases c31 : (ji29) < (x4_1.length : Int)
        ·rw [if_pos c31] at H
         have c31b0 : decide ((ji29) < (x4_1.length : Int)) = true := decide_eq_true c31
         clear c31
         simp only [Option.some.injEq, Prod.mk.injEq] at H
         obtain ⟨rfl, rfl⟩ := H
         obtain ⟨Ao32, co32, eo32⟩ := Kd.R_slice HO_4.out
         subst eo32
         have p604 : 0 ≤ ((ji29) : Int) := zo
         have q604 : (ji29) < (x4_1.length : Int) := zo
         obtain ⟨ad604, e604, hx604_0⟩ := Kd.at_int (Kd.R_reads' HO_4.out).2.2 (ji29) p604 q604
         cases e604
         replace p604 := eq_true p604
         replace q604 := eq_true q604
         go_wp2
         go_ret2
         exact ⟨by first | rfl | (simp [errW_none, errW_some] <;> rfl) | (simp only [← hji29]; first | rfl | (simp [errW_none, errW_some] <;> rfl)) | (simp [*, errW_none, errW_some] <;> rfl), ya⟩
        ·rw [if_neg c31] at H
         exact absurd H ye1
       ·rw [if_neg c30] at H
        exact absurd H ye1
   ·rw [if_neg c5] at H
    exact absurd H ye1
  ·rw [if_neg c4] at H
   exact absurd H ye1
 ·replace c3 := Bool.eq_false_iff.mpr c3
  subst c3
  rw [if_neg (show ¬ (false = true) by decide)] at H
  simp only [Option.some.injEq, Prod.mk.injEq] at H
  obtain ⟨rfl, rfl⟩ := H
  go_enter Try.func44, Try.ntmps44
  go_wp2_with (first | ((with_reducible refine gate_callee (f := 60) rfl ?_); refine goesL_ (some 10) rfl rfl Try.func60 yi rfl #[.slice A0 l0.length c0] rfl yb ?_; (with_reducible refine (spec_exGood.calls k _ _ l0 false _ ?side1 ?side2 A2.out).mono ?_); (case side1 => exact xxc); (case side2 => exact HC0.out); rintro e w33 ⟨rfl, hb⟩; refine ⟨_, rfl, ?_⟩; have n0_ := zK (zL ya hb); clear HB; have HB := n0_; clear n0_; (try clear hb); (try clear hb2); (try clear hk); (try clear hi)))
  go_ret2
  exact ⟨yd, ya⟩

end Go.Proofs.Ytlcplhcccgbmnaa.D
