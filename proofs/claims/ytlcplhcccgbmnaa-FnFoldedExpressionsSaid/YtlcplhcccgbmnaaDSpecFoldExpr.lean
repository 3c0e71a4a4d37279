/- Contracts: spec_FoldExpr, spec_DrawIsExpr, spec_DrawCountOps, impl_CountOps, spec_exCount, spec_CountOps, impl_Node_110, impl_Node_57, impl_inputs, impl_InputsOf, spec_l1Put. -/
import Derived.Test.YtlcplhcccgbmnaaDK
import Derived.Test.YtlcplhcccgbmnaaDLawsBig
import Derived.Test.YtlcplhcccgbmnaaDImplIsExpr
import Derived.Test.YtlcplhcccgbmnaaDSpecL1CurNext
import Derived.Test.YtlcplhcccgbmnaaDSpecExGood
import Derived.Test.YtlcplhcccgbmnaaDSpecL1Expr
import Derived.Test.YtlcplhcccgbmnaaDSpecL1CurAnyExpr
import Derived.Test.YtlcplhcccgbmnaaDSpecExKeep
namespace Go.Proofs.Ytlcplhcccgbmnaa.D
open Go.RowKit Go.Proofs.YtlcplhcccgbmnaaW.PrintWords Go.Proofs.YtlcplhcccgbmnaaW.PrintLast Go.Proofs.YtlcplhcccgbmnaaW.PrintMore
attribute [local go_sem] max2_int min2_int max_two min_two max_three min_three max_four min_four   -- for this text's walks alone
set_option linter.unusedVariables false
set_option linter.unusedSimpArgs false
attribute [local go_sem high] eqA47

/-! ### spec_FoldExpr: function 37 -/
def spec_FoldExpr.f (k : Nat) (l0 : List (S47)) : Option ((List (S47)) × Bool) := (spec_exGood.f k l0).bind fun t495 => (if t495 = true then ((spec_exFold.f k l0).bind fun t496 => (some (t496, true))) else (some (([] : List (S47)), false)))
set_option maxHeartbeats 8000000 in
set_option maxRecDepth 100000 in
theorem spec_FoldExpr.calls (k : Nat) (A0 : Option Addr) (c0 : Nat) (l0 : List (S47)) (r1 : List (S47)) (r2 : Bool) (w : World) (hr0 : Kd.C k47 w A0 l0.length l0) (hc0 : l0.length ≤ c0) (h : spec_FoldExpr.f k l0 = some (r1, r2)) :
  Calls Try.prog 37 #[.slice A0 l0.length c0] w fun e w' => ∃ v0_ : Value, e = .returned (.tuple #[v0_, .bool r2]) ∧ Kd.R k47 47 w' w.heap.size (fun _ => True) v0_ r1 ∧ Below w.heap.size w w' := by
 have HR0 := zK hr0
 have HC0 := zK hc0
 clear hr0 hc0
 have HB := zK (Below.refl w.heap.size w)
 have H : ((spec_exGood.f k l0).bind fun t495 => (if t495 = true then ((spec_exFold.f k l0).bind fun t496 => (some (t496, true))) else (some (([] : List (S47)), false)))) = some (r1, r2) := h
 clear h
 replace H := Option.bind_eq_some_iff.mp H
 obtain ⟨t495, A20, H⟩ := H
 replace H : (if t495 = true then ((spec_exFold.f k l0).bind fun t496 => (some (t496, true))) else (some (([] : List (S47)), false))) = some (r1, r2) := H
 have A2 := zK A20
 clear A20
 by_cases c3 : t495 = true
 ·subst c3
  rw [if_pos rfl] at H
  replace H := Option.bind_eq_some_iff.mp H
  obtain ⟨t496, A40, H⟩ := H
  replace H : (some (t496, true)) = some (r1, r2) := H
  have A4 := zK A40
  clear A40
  simp only [Option.some.injEq, Prod.mk.injEq] at H
  obtain ⟨rfl, rfl⟩ := H
  go_enter Try.func37, Try.ntmps37
  go_wp2_with (first | ((with_reducible refine gate_callee (f := 60) rfl ?_); refine goesL_ (some 5) rfl rfl Try.func60 yi rfl #[.slice A0 l0.length c0] rfl yb ?_; (with_reducible refine (spec_exGood.calls k _ _ l0 true _ ?side1 ?side2 A2.out).mono ?_); (case side1 => exact xxc); (case side2 => exact HC0.out); rintro e w5 ⟨rfl, hb⟩; refine ⟨_, rfl, ?_⟩; have n0_ := zK (zL ya hb); clear HB; have HB := n0_; clear n0_; (try clear hb); (try clear hb2); (try clear hk); (try clear hi)) | ((with_reducible refine gate_callee (f := 95) rfl ?_); refine goesL_ (some 8) rfl rfl Try.func95 yi rfl #[.slice A0 l0.length c0] rfl yb ?_; (with_reducible refine (spec_exFold.calls k _ _ l0 t496 _ ?side1 ?side2 A4.out).mono ?_); (case side1 => exact xxd); (case side2 => exact HC0.out); rintro e w6 ⟨v497, rfl, ho0, hb⟩; refine ⟨_, rfl, ?_⟩; have n0_ := zK (Kd.R_lower ho0 (zN ya)); have n1_ := zK (zL ya hb); clear HB; have HO498 := n0_; have HB := n1_; clear n0_ n1_; (try clear hb); (try clear hb2); (try clear hk); (try clear hi); (try clear ho0)))
  go_ret2
  exact ⟨_, yd, yR HO498.out, ya⟩
 ·replace c3 := Bool.eq_false_iff.mpr c3
  subst c3
  rw [if_neg (show ¬ (false = true) by decide)] at H
  simp only [Option.some.injEq, Prod.mk.injEq] at H
  obtain ⟨rfl, rfl⟩ := H
  go_enter Try.func37, Try.ntmps37
  go_wp2_with (first | ((with_reducible refine gate_callee (f := 60) rfl ?_); refine goesL_ (some 5) rfl rfl Try.func60 yi rfl #[.slice A0 l0.length c0] rfl yb ?_; (with_reducible refine (spec_exGood.calls k _ _ l0 false _ ?side1 ?side2 A2.out).mono ?_); (case side1 => exact xxc); (case side2 => exact HC0.out); rintro e w7 ⟨rfl, hb⟩; refine ⟨_, rfl, ?_⟩; have n0_ := zK (zL ya hb); clear HB; have HB := n0_; clear n0_; (try clear hb); (try clear hb2); (try clear hk); (try clear hi)))
  go_ret2
  exact ⟨_, yd, yd1, ya⟩

/-! ### spec_DrawIsExpr: function 63 -/
def spec_DrawIsExpr.f (k : Nat) (l0 : List Int) : Option ((List (S47))) := (spec_newstate.f l0).bind fun bt499 => ((spec_l1Cur_anyExpr.f k bt499.1 bt499.2.1 bt499.2.2 4).bind fun bt503 => (some bt503.1))
set_option maxHeartbeats 8000000 in
set_option maxRecDepth 100000 in
theorem spec_DrawIsExpr.calls (k : Nat) (A0 : Option Addr) (c0 : Nat) (l0 : List Int) (r : List (S47)) (w : World) (hr0 : Kd.C (Kd.int .u8) w A0 l0.length l0) (hc0 : l0.length ≤ c0) (h : spec_DrawIsExpr.f k l0 = some r) :
  Calls Try.prog 63 #[.slice A0 l0.length c0] w fun e w' => ∃ v0_ : Value, e = .returned (v0_) ∧ Kd.R k47 47 w' w.heap.size (fun _ => True) v0_ r ∧ Below w.heap.size w w' := by
 have HR0 := zK hr0
 have HC0 := zK hc0
 clear hr0 hc0
 have HB := zK (Below.refl w.heap.size w)
 have H : ((spec_newstate.f l0).bind fun bt499 => ((spec_l1Cur_anyExpr.f k bt499.1 bt499.2.1 bt499.2.2 4).bind fun bt503 => (some bt503.1))) = some r := h
 clear h
 replace H := Option.bind_eq_some_iff.mp H
 obtain ⟨⟨t499, t500, t501⟩, A20, H⟩ := H
 replace H : ((spec_l1Cur_anyExpr.f k t499 t500 t501 4).bind fun bt503 => (some bt503.1)) = some r := H
 have A2 := zK A20
 clear A20
 replace H := Option.bind_eq_some_iff.mp H
 obtain ⟨⟨t503, t506, t507⟩, A30, H⟩ := H
 replace H : (some t503) = some r := H
 have A3 := zK A30
 clear A30
 obtain rfl := Option.some.inj H
 go_enter Try.func63, Try.ntmps63
 go_wp2_with (first | ((with_reducible refine gate_dst (N := 6) rfl ?_); refine box_event ?hg (N := 6) ?hd (cs := #[.slice A0 l0.length c0, .int .i64 0, .int .u64 0]) (t := 59) ?hr ?_; (case hd | hg => rfl); (case hr => exact xxa); intro g502 hg w4 hbox hb2; obtain ⟨hi, hb⟩ := spec_newstate.box hg hbox hb2 ya HR0.out A2.out; clear hbox hg; have n0_ := zK (hb); have n1_ := zK (hi); clear HB; have HB := n0_; have HI502 := n1_; clear n0_ n1_; (try clear hb); (try clear hb2); (try clear hk); (try clear hi)) | ((with_reducible refine gate_callee (f := 54) rfl ?_); refine goesL_ (some 8) rfl rfl Try.func54 yi rfl #[.pointer (some ⟨g502, 0, none⟩), .int .i64 4] rfl yb ?_; (with_reducible refine (spec_l1Cur_anyExpr.calls k g502 t499 t500 t501 4 t503 t506 t507 w _ ?side1 ?side2 A3.out).mono ?_); (case side1 => repeat (first | (with_reducible first | exact HI502.out | apply IsS59.alloc | apply IsS59.drewN | apply IsS59.drew | apply IsS59.set_1 | apply IsS59.set_2) | exact HI502.out)); (case side2 => repeat (first | (with_reducible first | exact HB.out | apply zA | apply zB | apply zC | refine zD ?_ (IsS59.ge HI502.out)) | exact HB.out)); rintro e w5 ⟨v504, rfl, ho0, hi, hb, hk⟩; refine ⟨_, rfl, ?_⟩; have n0_ := zK (Kd.R_lower ho0 (zN (by repeat (first | (with_reducible first | exact HB.out | apply zA | apply zB | apply zC | refine zD ?_ (IsS59.ge HI502.out)) | exact HB.out)))); have n1_ := zK (hb); have n2_ := zK (hi); clear HB; clear HI502; have HO505 := n0_; have HB := n1_; have HI502 := n2_; clear n0_ n1_ n2_; (try clear hb); (try clear hb2); (try clear hk); (try clear hi); (try clear ho0)))
 go_ret
 exact ⟨_, yd, yR HO505.out, by repeat (first | (with_reducible first | exact HB.out | apply zA | apply zB | apply zC | refine zD ?_ (IsS59.ge HI502.out)) | exact HB.out)⟩

/-! ### spec_DrawCountOps: function 38 -/
def spec_DrawCountOps.f (k : Nat) (l0 : List Int) : Option ((List (S47))) := (spec_DrawIsExpr.f k l0).bind fun t508 => (some t508)
set_option maxHeartbeats 8000000 in
set_option maxRecDepth 100000 in
theorem spec_DrawCountOps.calls (k : Nat) (A0 : Option Addr) (c0 : Nat) (l0 : List Int) (r : List (S47)) (w : World) (hr0 : Kd.C (Kd.int .u8) w A0 l0.length l0) (hc0 : l0.length ≤ c0) (h : spec_DrawCountOps.f k l0 = some r) :
  Calls Try.prog 38 #[.slice A0 l0.length c0] w fun e w' => ∃ v0_ : Value, e = .returned (v0_) ∧ Kd.R k47 47 w' w.heap.size (fun _ => True) v0_ r ∧ Below w.heap.size w w' := by
 have HR0 := zK hr0
 have HC0 := zK hc0
 clear hr0 hc0
 have HB := zK (Below.refl w.heap.size w)
 have H : ((spec_DrawIsExpr.f k l0).bind fun t508 => (some t508)) = some r := h
 clear h
 replace H := Option.bind_eq_some_iff.mp H
 obtain ⟨t508, A20, H⟩ := H
 replace H : (some t508) = some r := H
 have A2 := zK A20
 clear A20
 obtain rfl := Option.some.inj H
 go_enter Try.func38, Try.ntmps38
 go_wp2_with (first | ((with_reducible refine gate_callee (f := 63) rfl ?_); refine goesL_ (some 4) rfl rfl Try.func63 yi rfl #[.slice A0 l0.length c0] rfl yb ?_; (with_reducible refine (spec_DrawIsExpr.calls k _ _ l0 t508 _ ?side1 ?side2 A2.out).mono ?_); (case side1 => exact xxc); (case side2 => exact HC0.out); rintro e w3 ⟨v509, rfl, ho0, hb⟩; refine ⟨_, rfl, ?_⟩; have n0_ := zK (Kd.R_lower ho0 (zN ya)); have n1_ := zK (zL ya hb); clear HB; have HO510 := n0_; have HB := n1_; clear n0_ n1_; (try clear hb); (try clear hb2); (try clear hk); (try clear hi); (try clear ho0)))
 go_ret
 exact ⟨_, yd, yR HO510.out, ya⟩

/-! ### impl_CountOps: function 39 -/
def impl_CountOps.l0 : Nat → Int → List (S47) → Int → Int → Option (Int × Bool)
 | 0, _, _, _, _ => none
 | k + 1, x4, x10, x11, x12 => if x12 < x11 then (if 0 ≤ x12 then (if x12 < (x10.length : Int) then ((impl_operands.f k ((rd_T47 x10 x12).f0)).bind fun t514 => ((impl_bit.f (decide (t514 > 0))).bind fun t515 => (impl_CountOps.l0 k (wrap64 (x4 + t515)) x10 x11 (wrap64 (x12 + 1))))) else (none)) else (none)) else (some (x4, true))
def impl_CountOps.f (k : Nat) (l0 : List (S47)) : Option (Int × Bool) := (impl_IsExpr.f k l0).bind fun t511 => (if t511 = true then (impl_CountOps.l0 k 0 l0 (l0.length : Int) 0) else (some (0, false)))
set_option maxHeartbeats 8000000 in
set_option maxRecDepth 100000 in
theorem impl_CountOps.calls (k : Nat) (A0 : Option Addr) (c0 : Nat) (l0 : List (S47)) (r1 : Int) (r2 : Bool) (w : World) (hr0 : Kd.C k47 w A0 l0.length l0) (hc0 : l0.length ≤ c0) (h : impl_CountOps.f k l0 = some (r1, r2)) :
  Calls Try.prog 39 #[.slice A0 l0.length c0] w fun e w' => e = .returned (.tuple #[.int .i64 r1, .bool r2]) ∧ Below w.heap.size w w' := by
 have hu47 := Try.underlying47
 have HR0 := zK hr0
 have HC0 := zK hc0
 clear hr0 hc0
 have HB := zK (Below.refl w.heap.size w)
 have H : ((impl_IsExpr.f k l0).bind fun t511 => (if t511 = true then (impl_CountOps.l0 k 0 l0 (l0.length : Int) 0) else (some (0, false)))) = some (r1, r2) := h
 clear h
 replace H := Option.bind_eq_some_iff.mp H
 obtain ⟨t511, A20, H⟩ := H
 replace H : (if t511 = true then (impl_CountOps.l0 k 0 l0 (l0.length : Int) 0) else (some (0, false))) = some (r1, r2) := H
 have A2 := zK A20
 clear A20
 by_cases c3 : t511 = true
 ·subst c3
  rw [if_pos rfl] at H
  have H' := zK H
  clear H
  go_enter Try.func39, Try.ntmps39
  go_wp2_with (first | ((with_reducible refine gate_callee (f := 20) rfl ?_); refine goesL_ (some 8) rfl rfl Try.func20 yi rfl #[.slice A0 l0.length c0] rfl yb ?_; (with_reducible refine (impl_IsExpr.calls k _ _ l0 true _ ?side1 ?side2 A2.out).mono ?_); (case side1 => exact xxc); (case side2 => exact HC0.out); rintro e w4 ⟨rfl, hb⟩; refine ⟨_, rfl, ?_⟩; have n0_ := zK (zL ya hb); clear HB; have HB := n0_; clear n0_; (try clear hb); (try clear hb2); (try clear hk); (try clear hi)))
  go_loopg [4, 12] k (fun kq v4 v12 w' => ∃ (x4_1 : Int) (x12_1 : Int), v4 = .int .i64 x4_1 ∧ v12 = .int .i64 x12_1 ∧ Aside0 (impl_CountOps.l0 kq x4_1 l0 (l0.length : Int) x12_1 = some (r1, r2)) ∧ Aside0 (kq ≤ k) ∧ Aside0 (Below w.heap.size w w'))
  case atStart => exact ⟨(0), (0), ye, ye, H', ⟨Nat.le_refl _⟩, ⟨ya⟩⟩
  case round =>
   clear H'
   try clear c2
   try clear p2
   try clear c3
   obtain ⟨x4_1, x12_1, rfl, rfl, HA, HK1, HB⟩ := hrel
   cases gk with
   | zero => exact absurd HA.out (by simp [impl_CountOps.l0])
   | succ k1 =>
    have H := HA.out
    clear HA
    simp only [impl_CountOps.l0] at H
    by_cases c5 : x12_1 < (l0.length : Int)
    ·rw [if_pos c5] at H
     have c5b0 : decide (x12_1 < (l0.length : Int)) = true := decide_eq_true c5
     clear c5
     by_cases c6 : 0 ≤ x12_1
     ·rw [if_pos c6] at H
      have c6b0 : decide (0 ≤ x12_1) = true := decide_eq_true c6
      clear c6
      by_cases c7 : x12_1 < (l0.length : Int)
      ·rw [if_pos c7] at H
       have c7b0 : decide (x12_1 < (l0.length : Int)) = true := decide_eq_true c7
       clear c7
       replace H := Option.bind_eq_some_iff.mp H
       obtain ⟨t514, A80, H⟩ := H
       replace H : ((impl_bit.f (decide (t514 > 0))).bind fun t515 => (impl_CountOps.l0 k1 (wrap64 (x4_1 + t515)) l0 (l0.length : Int) (wrap64 (x12_1 + 1)))) = some (r1, r2) := H
       have A8 := zK A80
       clear A80
       replace H := Option.bind_eq_some_iff.mp H
       obtain ⟨t515, A90, H⟩ := H
       replace H : (impl_CountOps.l0 k1 (wrap64 (x4_1 + t515)) l0 (l0.length : Int) (wrap64 (x12_1 + 1))) = some (r1, r2) := H
       have A9 := zK A90
       clear A90
       have H' := zK H
       clear H
       have p512 : 0 ≤ (x12_1 : Int) := zo
       have q512 : x12_1 < (l0.length : Int) := zo
       obtain ⟨ad512, e512, hx512_0, hx512_1, hx512_2, hx512_3⟩ := at_T47 HR0.out x12_1 p512 q512
       cases e512
       replace hx512_0 := zt HB.out hx512_0
       replace hx512_1 := zt HB.out hx512_1
       replace hx512_2 := zt HB.out hx512_2
       replace hx512_3 := zt HB.out hx512_3
       replace p512 := eq_true p512
       replace q512 := eq_true q512
       go_wp2_with (first | ((with_reducible refine gate_dst (N := 6) rfl ?_); refine box_event ?hg (N := 6) ?hd (cs := #[.string (⟨#[]⟩ : ByteArray), .int .i64 0, .int .i64 0, .int .i64 0]) (t := 47) ?hr ?_; (case hd | hg => rfl); (case hr => exact xxa); intro gb513 hg w10 hbox hb; have n0_ := zK (zL ya hb); have n1_ := zK (hbox); have n2_ := zK ((by rw [hg]; exact (zN ya) : w.heap.size ≤ gb513)); have n3_ := n2_; clear HB; have HB := n0_; have BK513 := n1_; have GW513 := n2_; have GE513 := n3_; clear n0_ n1_ n2_ n3_; clear hb hbox hg; have hcz11_0 : w10.cell? ⟨gb513, 0, none⟩ = some (.string (⟨#[]⟩ : ByteArray)) := (zI BK513.out 0).trans rfl; have hcz11_1 : w10.cell? ⟨gb513, 1, none⟩ = some (.int .i64 0) := (zI BK513.out 1).trans rfl; have hcz11_2 : w10.cell? ⟨gb513, 2, none⟩ = some (.int .i64 0) := (zI BK513.out 2).trans rfl; have hcz11_3 : w10.cell? ⟨gb513, 3, none⟩ = some (.int .i64 0) := (zI BK513.out 3).trans rfl; have hfz11_0 := zH BK513.out 0; have hfz11_1 := zH BK513.out 1; have hfz11_2 := zH BK513.out 2; have hfz11_3 := zH BK513.out 3) | ((with_reducible refine gate_callee (f := 83) rfl ?_); refine goesL_ (some 19) rfl rfl Try.func83 yi rfl #[.string ((rd_T47 l0 x12_1).f0)] rfl yb ?_; (with_reducible refine (impl_operands.calls k1 ((rd_T47 l0 x12_1).f0) t514 _ A8.out).mono ?_); rintro e w12 ⟨rfl, hb⟩; refine ⟨_, rfl, ?_⟩; have n0_ := zK (zM (g := gb513) (o := .cells #[.string ((rd_T47 l0 x12_1).f0), .int .i64 ((rd_T47 l0 x12_1).f1), .int .i64 ((rd_T47 l0 x12_1).f2), .int .i64 ((rd_T47 l0 x12_1).f3)] 47 (0, 0)) (by (with_reducible repeat (first | refine zE ?_ _ | refine zF ?_ | refine zG ?_ _)); refine blk_put (cs := #[.string ((rd_T47 l0 x12_1).f0), .int .i64 ((rd_T47 l0 x12_1).f1), .int .i64 ((rd_T47 l0 x12_1).f2), .int .i64 0]) ?_ 3 _ rfl; (with_reducible repeat (first | refine zE ?_ _ | refine zF ?_ | refine zG ?_ _)); refine blk_put (cs := #[.string ((rd_T47 l0 x12_1).f0), .int .i64 ((rd_T47 l0 x12_1).f1), .int .i64 0, .int .i64 0]) ?_ 2 _ rfl; (with_reducible repeat (first | refine zE ?_ _ | refine zF ?_ | refine zG ?_ _)); refine blk_put (cs := #[.string ((rd_T47 l0 x12_1).f0), .int .i64 0, .int .i64 0, .int .i64 0]) ?_ 1 _ rfl; (with_reducible repeat (first | refine zE ?_ _ | refine zF ?_ | refine zG ?_ _)); refine blk_put (cs := #[.string (⟨#[]⟩ : ByteArray), .int .i64 0, .int .i64 0, .int .i64 0]) ?_ 0 _ rfl; (with_reducible repeat (first | refine zE ?_ _ | refine zF ?_ | refine zG ?_ _)); exact BK513.out) hb); have n1_ := zK (zL (by repeat (first | (with_reducible first | exact HB.out | apply zA | apply zB | apply zC | refine zD ?_ GE513.out) | exact HB.out)) hb); clear BK513; clear HB; have BK513 := n0_; have HB := n1_; clear n0_ n1_; (try clear hb); (try clear hb2); (try clear hk); (try clear hi)) | ((with_reducible refine gate_callee (f := 96) rfl ?_); refine goesL_ (some 21) rfl rfl Try.func96 yi rfl #[.bool (decide (t514 > 0))] rfl yb ?_; (with_reducible refine (impl_bit.calls (decide (t514 > 0)) t515 _ A9.out).mono ?_); rintro e w' ⟨rfl, ⟨nd, rfl⟩⟩; refine ⟨_, rfl, ?_⟩))
       go_roundg k1
       case measure => have := HK1.out; omega
       case rel => exact ⟨(wrap64 (x4_1 + t515)), (wrap64 (x12_1 + 1)), ye, ye, H', ⟨yb2⟩, ⟨by repeat (first | (with_reducible first | exact HB.out | apply zA | apply zB | apply zC | refine zD ?_ GE513.out) | exact HB.out)⟩⟩
      ·rw [if_neg c7] at H
       exact absurd H ye1
     ·rw [if_neg c6] at H
      exact absurd H ye1
    ·rw [if_neg c5] at H
     have c5b0 : decide (x12_1 < (l0.length : Int)) = false := decide_eq_false c5
     clear c5
     simp only [Option.some.injEq, Prod.mk.injEq] at H
     obtain ⟨rfl, rfl⟩ := H
     go_wp2
     go_ret2
     exact ⟨yd, ya⟩
 ·replace c3 := Bool.eq_false_iff.mpr c3
  subst c3
  rw [if_neg (show ¬ (false = true) by decide)] at H
  simp only [Option.some.injEq, Prod.mk.injEq] at H
  obtain ⟨rfl, rfl⟩ := H
  go_enter Try.func39, Try.ntmps39
  go_wp2_with (first | ((with_reducible refine gate_callee (f := 20) rfl ?_); refine goesL_ (some 8) rfl rfl Try.func20 yi rfl #[.slice A0 l0.length c0] rfl yb ?_; (with_reducible refine (impl_IsExpr.calls k _ _ l0 false _ ?side1 ?side2 A2.out).mono ?_); (case side1 => exact xxc); (case side2 => exact HC0.out); rintro e w13 ⟨rfl, hb⟩; refine ⟨_, rfl, ?_⟩; have n0_ := zK (zL ya hb); clear HB; have HB := n0_; clear n0_; (try clear hb); (try clear hb2); (try clear hk); (try clear hi)))
  go_ret2
  exact ⟨yd, ya⟩

/-! ### spec_exCount: function 97 -/
def spec_exCount.l0 : Nat → Int → List (S47) → Int → Int → Option (Int)
 | 0, _, _, _, _ => none
 | k + 1, x3, x6, x7, x8 => if x8 < x7 then (if 0 ≤ x8 then (if x8 < (x6.length : Int) then ((spec_exParts.f k ((rd_T47 x6 x8).f0) ((rd_T47 x6 x8).f1) ((rd_T47 x6 x8).f2) ((rd_T47 x6 x8).f3)).bind fun t518 => (if (t518.length : Int) > 0 then (spec_exCount.l0 k (wrap64 (x3 + 1)) x6 x7 (wrap64 (x8 + 1))) else (spec_exCount.l0 k x3 x6 x7 (wrap64 (x8 + 1))))) else (none)) else (none)) else (some x3)
def spec_exCount.f (k : Nat) (l0 : List (S47)) : Option (Int) := spec_exCount.l0 k 0 l0 (l0.length : Int) 0
set_option maxHeartbeats 8000000 in
set_option maxRecDepth 100000 in
theorem spec_exCount.calls (k : Nat) (A0 : Option Addr) (c0 : Nat) (l0 : List (S47)) (r : Int) (w : World) (hr0 : Kd.C k47 w A0 l0.length l0) (hc0 : l0.length ≤ c0) (h : spec_exCount.f k l0 = some r) :
  Calls Try.prog 97 #[.slice A0 l0.length c0] w fun e w' => e = .returned (.int .i64 r) ∧ Below w.heap.size w w' := by
 have hu47 := Try.underlying47
 have HR0 := zK hr0
 have HC0 := zK hc0
 clear hr0 hc0
 have HB := zK (Below.refl w.heap.size w)
 have H : (spec_exCount.l0 k 0 l0 (l0.length : Int) 0) = some r := h
 clear h
 have H' := zK H
 clear H
 go_enter Try.func97, Try.ntmps97
 go_wp2
 go_loopg [3, 8] k (fun kq v3 v8 w' => ∃ (x3_1 : Int) (x8_1 : Int), v3 = .int .i64 x3_1 ∧ v8 = .int .i64 x8_1 ∧ Aside0 (spec_exCount.l0 kq x3_1 l0 (l0.length : Int) x8_1 = some r) ∧ Aside0 (kq ≤ k) ∧ Aside0 (Below w.heap.size w w'))
 case atStart => exact ⟨(0), (0), ye, ye, H', ⟨Nat.le_refl _⟩, ⟨ya⟩⟩
 case round =>
  clear H'
  obtain ⟨x3_1, x8_1, rfl, rfl, HA, HK1, HB⟩ := hrel
  cases gk with
  | zero => exact absurd HA.out (by simp [spec_exCount.l0])
  | succ k1 =>
   have H := HA.out
   clear HA
   simp only [spec_exCount.l0] at H
   by_cases c2 : x8_1 < (l0.length : Int)
   ·rw [if_pos c2] at H
    have c2b0 : decide (x8_1 < (l0.length : Int)) = true := decide_eq_true c2
    clear c2
    by_cases c3 : 0 ≤ x8_1
    ·rw [if_pos c3] at H
     have c3b0 : decide (0 ≤ x8_1) = true := decide_eq_true c3
     clear c3
     by_cases c4 : x8_1 < (l0.length : Int)
     ·rw [if_pos c4] at H
      have c4b0 : decide (x8_1 < (l0.length : Int)) = true := decide_eq_true c4
      clear c4
      replace H := Option.bind_eq_some_iff.mp H
      obtain ⟨t518, A50, H⟩ := H
      replace H : (if (t518.length : Int) > 0 then (spec_exCount.l0 k1 (wrap64 (x3_1 + 1)) l0 (l0.length : Int) (wrap64 (x8_1 + 1))) else (spec_exCount.l0 k1 x3_1 l0 (l0.length : Int) (wrap64 (x8_1 + 1)))) = some r := H
      have A5 := zK A50
      clear A50
      by_cases c6 : (t518.length : Int) > 0
      ·rw [if_pos c6] at H
       have c6b0 : decide (0 < (t518.length : Int)) = true := decide_eq_true c6
       have c6b1 : decide (0 < t518.length) = true := decide_eq_true (by omega)
       clear c6
       have H' := zK H
       clear H
       have p516 : 0 ≤ (x8_1 : Int) := zo
       have q516 : x8_1 < (l0.length : Int) := zo
       obtain ⟨ad516, e516, hx516_0, hx516_1, hx516_2, hx516_3⟩ := at_T47 HR0.out x8_1 p516 q516
       cases e516
       replace hx516_0 := zt HB.out hx516_0
       replace hx516_1 := zt HB.out hx516_1
       replace hx516_2 := zt HB.out hx516_2
       replace hx516_3 := zt HB.out hx516_3
       replace p516 := eq_true p516
       replace q516 := eq_true q516
       go_wp2_with (first | ((with_reducible refine gate_dst (N := 5) rfl ?_); refine box_event ?hg (N := 5) ?hd (cs := #[.string (⟨#[]⟩ : ByteArray), .int .i64 0, .int .i64 0, .int .i64 0]) (t := 47) ?hr ?_; (case hd | hg => rfl); (case hr => exact xxa); intro gb517 hg w7 hbox hb; have n0_ := zK (zL ya hb); have n1_ := zK (hbox); have n2_ := zK ((by rw [hg]; exact (zN ya) : w.heap.size ≤ gb517)); have n3_ := n2_; clear HB; have HB := n0_; have BK517 := n1_; have GW517 := n2_; have GE517 := n3_; clear n0_ n1_ n2_ n3_; clear hb hbox hg; have hcz8_0 : w7.cell? ⟨gb517, 0, none⟩ = some (.string (⟨#[]⟩ : ByteArray)) := (zI BK517.out 0).trans rfl; have hcz8_1 : w7.cell? ⟨gb517, 1, none⟩ = some (.int .i64 0) := (zI BK517.out 1).trans rfl; have hcz8_2 : w7.cell? ⟨gb517, 2, none⟩ = some (.int .i64 0) := (zI BK517.out 2).trans rfl; have hcz8_3 : w7.cell? ⟨gb517, 3, none⟩ = some (.int .i64 0) := (zI BK517.out 3).trans rfl; have hfz8_0 := zH BK517.out 0; have hfz8_1 := zH BK517.out 1; have hfz8_2 := zH BK517.out 2; have hfz8_3 := zH BK517.out 3) | ((with_reducible refine gate_callee (f := 101) rfl ?_); refine goesL_ (some 13) rfl rfl Try.func101 yi rfl #[.agg #[.string ((rd_T47 l0 x8_1).f0), .int .i64 ((rd_T47 l0 x8_1).f1), .int .i64 ((rd_T47 l0 x8_1).f2), .int .i64 ((rd_T47 l0 x8_1).f3)]] rfl yb ?_; (with_reducible refine (spec_exParts.calls k1 ((rd_T47 l0 x8_1).f0) ((rd_T47 l0 x8_1).f1) ((rd_T47 l0 x8_1).f2) ((rd_T47 l0 x8_1).f3) t518 _ A5.out).mono ?_); rintro e w9 ⟨v519, rfl, ho0, hb⟩; refine ⟨_, rfl, ?_⟩; have n0_ := zK (Kd.R_lower ho0 (zN yx1)); have n1_ := zK (zM (g := gb517) (o := .cells #[.string ((rd_T47 l0 x8_1).f0), .int .i64 ((rd_T47 l0 x8_1).f1), .int .i64 ((rd_T47 l0 x8_1).f2), .int .i64 ((rd_T47 l0 x8_1).f3)] 47 (0, 0)) (by (with_reducible repeat (first | refine zE ?_ _ | refine zF ?_ | refine zG ?_ _)); refine blk_put (cs := #[.string ((rd_T47 l0 x8_1).f0), .int .i64 ((rd_T47 l0 x8_1).f1), .int .i64 ((rd_T47 l0 x8_1).f2), .int .i64 0]) ?_ 3 _ rfl; (with_reducible repeat (first | refine zE ?_ _ | refine zF ?_ | refine zG ?_ _)); refine blk_put (cs := #[.string ((rd_T47 l0 x8_1).f0), .int .i64 ((rd_T47 l0 x8_1).f1), .int .i64 0, .int .i64 0]) ?_ 2 _ rfl; (with_reducible repeat (first | refine zE ?_ _ | refine zF ?_ | refine zG ?_ _)); refine blk_put (cs := #[.string ((rd_T47 l0 x8_1).f0), .int .i64 0, .int .i64 0, .int .i64 0]) ?_ 1 _ rfl; (with_reducible repeat (first | refine zE ?_ _ | refine zF ?_ | refine zG ?_ _)); refine blk_put (cs := #[.string (⟨#[]⟩ : ByteArray), .int .i64 0, .int .i64 0, .int .i64 0]) ?_ 0 _ rfl; (with_reducible repeat (first | refine zE ?_ _ | refine zF ?_ | refine zG ?_ _)); exact BK517.out) hb); have n2_ := zK (zL yx1 hb); clear BK517; clear HB; have HO520 := n0_; have BK517 := n1_; have HB := n2_; clear n0_ n1_ n2_; (try clear hb); (try clear hb2); (try clear hk); (try clear hi); (try clear ho0); obtain ⟨Ao10, co10, eo10⟩ := Kd.R_slice HO520.out; subst eo10))
       go_roundg k1
       case measure => have := HK1.out; omega
       case rel => exact ⟨(wrap64 (x3_1 + 1)), (wrap64 (x8_1 + 1)), ye, ye, H', ⟨yb2⟩, ⟨yx1⟩⟩
      ·rw [if_neg c6] at H
       have c6b0 : decide (0 < (t518.length : Int)) = false := decide_eq_false c6
       have c6b1 : decide (0 < t518.length) = false := decide_eq_false (by omega)
       clear c6
       have H' := zK H
       clear H
       have p516 : 0 ≤ (x8_1 : Int) := zo
       have q516 : x8_1 < (l0.length : Int) := zo
       obtain ⟨ad516, e516, hx516_0, hx516_1, hx516_2, hx516_3⟩ := at_T47 HR0.out x8_1 p516 q516
       cases e516
       replace hx516_0 := zt HB.out hx516_0
       replace hx516_1 := zt HB.out hx516_1
       replace hx516_2 := zt HB.out hx516_2
       replace hx516_3 := zt HB.out hx516_3
       replace p516 := eq_true p516
       replace q516 := eq_true q516
       go_wp2_with (first | ((with_reducible refine gate_dst (N := 5) rfl ?_); refine box_event ?hg (N := 5) ?hd (cs := #[.string (⟨#[]⟩ : ByteArray), .int .i64 0, .int .i64 0, .int .i64 0]) (t := 47) ?hr ?_; (case hd | hg => rfl); (case hr => exact xxa); intro gb517 hg w11 hbox hb; have n0_ := zK (zL ya hb); have n1_ := zK (hbox); have n2_ := zK ((by rw [hg]; exact (zN ya) : w.heap.size ≤ gb517)); have n3_ := n2_; clear HB; have HB := n0_; have BK517 := n1_; have GW517 := n2_; have GE517 := n3_; clear n0_ n1_ n2_ n3_; clear hb hbox hg; have hcz12_0 : w11.cell? ⟨gb517, 0, none⟩ = some (.string (⟨#[]⟩ : ByteArray)) := (zI BK517.out 0).trans rfl; have hcz12_1 : w11.cell? ⟨gb517, 1, none⟩ = some (.int .i64 0) := (zI BK517.out 1).trans rfl; have hcz12_2 : w11.cell? ⟨gb517, 2, none⟩ = some (.int .i64 0) := (zI BK517.out 2).trans rfl; have hcz12_3 : w11.cell? ⟨gb517, 3, none⟩ = some (.int .i64 0) := (zI BK517.out 3).trans rfl; have hfz12_0 := zH BK517.out 0; have hfz12_1 := zH BK517.out 1; have hfz12_2 := zH BK517.out 2; have hfz12_3 := zH BK517.out 3) | ((with_reducible refine gate_callee (f := 101) rfl ?_); refine goesL_ (some 13) rfl rfl Try.func101 yi rfl #[.agg #[.string ((rd_T47 l0 x8_1).f0), .int .i64 ((rd_T47 l0 x8_1).f1), .int .i64 ((rd_T47 l0 x8_1).f2), .int .i64 ((rd_T47 l0 x8_1).f3)]] rfl yb ?_; (with_reducible refine (spec_exParts.calls k1 ((rd_T47 l0 x8_1).f0) ((rd_T47 l0 x8_1).f1) ((rd_T47 l0 x8_1).f2) ((rd_T47 l0 x8_1).f3) t518 _ A5.out).mono ?_); rintro e w13 ⟨v519, rfl, ho0, hb⟩; refine ⟨_, rfl, ?_⟩; have n0_ := zK (Kd.R_lower ho0 (zN yx1)); have n1_ := zK (zM (g := gb517) (o := .cells #[.string ((rd_T47 l0 x8_1).f0), .int .i64 ((rd_T47 l0 x8_1).f1), .int .i64 ((rd_T47 l0 x8_1).f2), .int .i64 ((rd_T47 l0 x8_1).f3)] 47 (0, 0)) (by (with_reducible repeat (first | refine zE ?_ _ | refine zF ?_ | refine zG ?_ _)); refine blk_put (cs := #[.string ((rd_T47 l0 x8_1).f0), .int .i64 ((rd_T47 l0 x8_1).f1), .int .i64 ((rd_T47 l0 x8_1).f2), .int .i64 0]) ?_ 3 _ rfl; (with_reducible repeat (first | refine zE ?_ _ | refine zF ?_ | refine zG ?_ _)); refine blk_put (cs := #[.string ((rd_T47 l0 x8_1).f0), .int .i64 ((rd_T47 l0 x8_1).f1), .int .i64 0, .int .i64 0]) ?_ 2 _ rfl; (with_reducible repeat (first | refine zE ?_ _ | refine zF ?_ | refine zG ?_ _)); refine blk_put (cs := #[.string ((rd_T47 l0 x8_1).f0), .int .i64 0, .int .i64 0, .int .i64 0]) ?_ 1 _ rfl; (with_reducible repeat (first | refine zE ?_ _ | refine zF ?_ | refine zG ?_ _)); refine blk_put (cs := #[.string (⟨#[]⟩ : ByteArray), .int .i64 0, .int .i64 0, .int .i64 0]) ?_ 0 _ rfl; (with_reducible repeat (first | refine zE ?_ _ | refine zF ?_ | refine zG ?_ _)); exact BK517.out) hb); have n2_ := zK (zL yx1 hb); clear BK517; clear HB; have HO520 := n0_; have BK517 := n1_; have HB := n2_; clear n0_ n1_ n2_; (try clear hb); (try clear hb2); (try clear hk); (try clear hi); (try clear ho0); obtain ⟨Ao14, co14, eo14⟩ := Kd.R_slice HO520.out; subst eo14))
       go_roundg k1
       case measure => have := HK1.out; omega
       case rel => exact ⟨(x3_1), (wrap64 (x8_1 + 1)), ye, ye, H', ⟨yb2⟩, ⟨yx1⟩⟩
     ·rw [if_neg c4] at H
      exact absurd H ye1
    ·rw [if_neg c3] at H
     exact absurd H ye1
   ·rw [if_neg c2] at H
    have c2b0 : decide (x8_1 < (l0.length : Int)) = false := decide_eq_false c2
    clear c2
    obtain rfl := Option.some.inj H
    go_wp2
    go_ret
    exact ⟨yd, ya⟩

/-! ### spec_CountOps: function 40 -/
def spec_CountOps.f (k : Nat) (l0 : List (S47)) : Option (Int × Bool) := (spec_exGood.f k l0).bind fun t521 => (if t521 = true then ((spec_exCount.f k l0).bind fun t522 => (some (t522, true))) else (some (0, false)))
set_option maxHeartbeats 8000000 in
set_option maxRecDepth 100000 in
theorem spec_CountOps.calls (k : Nat) (A0 : Option Addr) (c0 : Nat) (l0 : List (S47)) (r1 : Int) (r2 : Bool) (w : World) (hr0 : Kd.C k47 w A0 l0.length l0) (hc0 : l0.length ≤ c0) (h : spec_CountOps.f k l0 = some (r1, r2)) :
  Calls Try.prog 40 #[.slice A0 l0.length c0] w fun e w' => e = .returned (.tuple #[.int .i64 r1, .bool r2]) ∧ Below w.heap.size w w' := by
 have HR0 := zK hr0
 have HC0 := zK hc0
 clear hr0 hc0
 have HB := zK (Below.refl w.heap.size w)
 have H : ((spec_exGood.f k l0).bind fun t521 => (if t521 = true then ((spec_exCount.f k l0).bind fun t522 => (some (t522, true))) else (some (0, false)))) = some (r1, r2) := h
 clear h
 replace H := Option.bind_eq_some_iff.mp H
 obtain ⟨t521, A20, H⟩ := H
 replace H : (if t521 = true then ((spec_exCount.f k l0).bind fun t522 => (some (t522, true))) else (some (0, false))) = some (r1, r2) := H
 have A2 := zK A20
 clear A20
 by_cases c3 : t521 = true
 ·subst c3
  rw [if_pos rfl] at H
  replace H := Option.bind_eq_some_iff.mp H
  obtain ⟨t522, A40, H⟩ := H
  replace H : (some (t522, true)) = some (r1, r2) := H
  have A4 := zK A40
  clear A40
  simp only [Option.some.injEq, Prod.mk.injEq] at H
  obtain ⟨rfl, rfl⟩ := H
  go_enter Try.func40, Try.ntmps40
  go_wp2_with (first | ((with_reducible refine gate_callee (f := 60) rfl ?_); refine goesL_ (some 5) rfl rfl Try.func60 yi rfl #[.slice A0 l0.length c0] rfl yb ?_; (with_reducible refine (spec_exGood.calls k _ _ l0 true _ ?side1 ?side2 A2.out).mono ?_); (case side1 => exact xxc); (case side2 => exact HC0.out); rintro e w5 ⟨rfl, hb⟩; refine ⟨_, rfl, ?_⟩; have n0_ := zK (zL ya hb); clear HB; have HB := n0_; clear n0_; (try clear hb); (try clear hb2); (try clear hk); (try clear hi)) | ((with_reducible refine gate_callee (f := 97) rfl ?_); refine goesL_ (some 8) rfl rfl Try.func97 yi rfl #[.slice A0 l0.length c0] rfl yb ?_; (with_reducible refine (spec_exCount.calls k _ _ l0 t522 _ ?side1 ?side2 A4.out).mono ?_); (case side1 => exact xxd); (case side2 => exact HC0.out); rintro e w6 ⟨rfl, hb⟩; refine ⟨_, rfl, ?_⟩; have n0_ := zK (zL ya hb); clear HB; have HB := n0_; clear n0_; (try clear hb); (try clear hb2); (try clear hk); (try clear hi)))
  go_ret2
  exact ⟨yd, ya⟩
 ·replace c3 := Bool.eq_false_iff.mpr c3
  subst c3
  rw [if_neg (show ¬ (false = true) by decide)] at H
  simp only [Option.some.injEq, Prod.mk.injEq] at H
  obtain ⟨rfl, rfl⟩ := H
  go_enter Try.func40, Try.ntmps40
  go_wp2_with (first | ((with_reducible refine gate_callee (f := 60) rfl ?_); refine goesL_ (some 5) rfl rfl Try.func60 yi rfl #[.slice A0 l0.length c0] rfl yb ?_; (with_reducible refine (spec_exGood.calls k _ _ l0 false _ ?side1 ?side2 A2.out).mono ?_); (case side1 => exact xxc); (case side2 => exact HC0.out); rintro e w7 ⟨rfl, hb⟩; refine ⟨_, rfl, ?_⟩; have n0_ := zK (zL ya hb); clear HB; have HB := n0_; clear n0_; (try clear hb); (try clear hb2); (try clear hk); (try clear hi)))
  go_ret2
  exact ⟨yd, ya⟩

/-! ### impl_Node_110: function 110 -/
def impl_Node_110.l0 : Nat → List (S47) → Int → Int → ByteArray → Int → Int → Int → Option (Int)
 | 0, _, _, _, _, _, _, _ => none
 | k + 1, x0, x7, x8, x524000, x524001, x524002, x524003 => if x8 < x7 then (if 0 ≤ x8 then (if x8 < (x0.length : Int) then (if (x524000.toList == (((rd_T47 x0 x8).f0).toList) && (x524001 == ((rd_T47 x0 x8).f1) && (x524002 == ((rd_T47 x0 x8).f2) && (x524003 == ((rd_T47 x0 x8).f3))))) = true then (some x8) else (impl_Node_110.l0 k x0 x7 (wrap64 (x8 + 1)) x524000 x524001 x524002 x524003)) else (none)) else (none)) else (some (-1))
def impl_Node_110.f (k : Nat) (l0 : List (S47)) (a1_0 : ByteArray) (a1_1 : Int) (a1_2 : Int) (a1_3 : Int) : Option (Int) := impl_Node_110.l0 k l0 (l0.length : Int) 0 a1_0 a1_1 a1_2 a1_3
set_option maxHeartbeats 8000000 in
set_option maxRecDepth 100000 in
theorem impl_Node_110.calls (k : Nat) (A0 : Option Addr) (c0 : Nat) (l0 : List (S47)) (a1_0 : ByteArray) (a1_1 : Int) (a1_2 : Int) (a1_3 : Int) (r : Int) (w : World) (hr0 : Kd.C k47 w A0 l0.length l0) (hc0 : l0.length ≤ c0) (h : impl_Node_110.f k l0 a1_0 a1_1 a1_2 a1_3 = some r) :
  Calls Try.prog 110 #[.slice A0 l0.length c0, .agg #[.string a1_0, .int .i64 a1_1, .int .i64 a1_2, .int .i64 a1_3]] w fun e w' => e = .returned (.int .i64 r) ∧ Below w.heap.size w w' := by
 have hu47 := Try.underlying47
 have HR0 := zK hr0
 have HC0 := zK hc0
 clear hr0 hc0
 have HB := zK (Below.refl w.heap.size w)
 have H : (impl_Node_110.l0 k l0 (l0.length : Int) 0 a1_0 a1_1 a1_2 a1_3) = some r := h
 clear h
 have H' := zK H
 clear H
 go_enter Try.func110, Try.ntmps110
 go_wp2_with (first | ((with_reducible refine gate_dst (N := 3) rfl ?_); refine box_event ?hg (N := 3) ?hd (cs := #[.string a1_0, .int .i64 a1_1, .int .i64 a1_2, .int .i64 a1_3]) (t := 47) ?hr ?_; (case hd | hg => rfl); (case hr => exact xxa); intro gb523 hg w3 hbox hb; have n0_ := zK (zL ya hb); have n1_ := zK (hbox); have n2_ := zK ((by rw [hg]; exact (zN ya) : w.heap.size ≤ gb523)); have n3_ := n2_; clear HB; have HB := n0_; have BK523 := n1_; have GW523 := n2_; have GE523 := n3_; clear n0_ n1_ n2_ n3_; clear hb hbox hg))
 repeat (go_quiet (first | ((with_reducible refine gate_dst (N := 3) rfl ?_); refine box_event ?hg (N := 3) ?hd (cs := #[.string a1_0, .int .i64 a1_1, .int .i64 a1_2, .int .i64 a1_3]) (t := 47) ?hr ?_; (case hd | hg => rfl); (case hr => exact xxa); intro gb523 hg w3 hbox hb; have n0_ := zK (zL ya hb); have n1_ := zK (hbox); have n2_ := zK ((by rw [hg]; exact (zN ya) : w.heap.size ≤ gb523)); have n3_ := n2_; clear HB; have HB := n0_; have BK523 := n1_; have GW523 := n2_; have GE523 := n3_; clear n0_ n1_ n2_ n3_; clear hb hbox hg)); try go_wp2_with (first | ((with_reducible refine gate_dst (N := 3) rfl ?_); refine box_event ?hg (N := 3) ?hd (cs := #[.string a1_0, .int .i64 a1_1, .int .i64 a1_2, .int .i64 a1_3]) (t := 47) ?hr ?_; (case hd | hg => rfl); (case hr => exact xxa); intro gb523 hg w3 hbox hb; have n0_ := zK (zL ya hb); have n1_ := zK (hbox); have n2_ := zK ((by rw [hg]; exact (zN ya) : w.heap.size ≤ gb523)); have n3_ := n2_; clear HB; have HB := n0_; have BK523 := n1_; have GW523 := n2_; have GE523 := n3_; clear n0_ n1_ n2_ n3_; clear hb hbox hg)))
 go_loopg [8] k (fun kq v8 w' => ∃ (x8_1 : Int), v8 = .int .i64 x8_1 ∧ Aside0 (impl_Node_110.l0 kq l0 (l0.length : Int) x8_1 a1_0 a1_1 a1_2 a1_3 = some r) ∧ Aside0 (kq ≤ k) ∧ Aside0 (w'.heap[gb523]? = some (.cells #[.string a1_0, .int .i64 a1_1, .int .i64 a1_2, .int .i64 a1_3] 47 (0, 0))) ∧ Aside0 (Below w.heap.size w w'))
 case atStart => exact ⟨(0), ye, H', ⟨Nat.le_refl _⟩, ⟨yS BK523.out⟩, ⟨by repeat (first | (with_reducible first | exact HB.out | apply zA | apply zB | apply zC | refine zD ?_ GE523.out) | exact HB.out)⟩⟩
 case round =>
  clear H'
  try clear c1
  try clear p2
  obtain ⟨x8_1, rfl, HA, HK1, BK523, HB⟩ := hrel
  cases gk with
  | zero => exact absurd HA.out (by simp [impl_Node_110.l0])
  | succ k1 =>
   have H := HA.out
   clear HA
   simp only [impl_Node_110.l0] at H
   by_cases c4 : x8_1 < (l0.length : Int)
   ·rw [if_pos c4] at H
    have c4b0 : decide (x8_1 < (l0.length : Int)) = true := decide_eq_true c4
    clear c4
    by_cases c5 : 0 ≤ x8_1
    ·rw [if_pos c5] at H
     have c5b0 : decide (0 ≤ x8_1) = true := decide_eq_true c5
     clear c5
     by_cases c6 : x8_1 < (l0.length : Int)
     ·rw [if_pos c6] at H
      have c6b0 : decide (x8_1 < (l0.length : Int)) = true := decide_eq_true c6
      clear c6
      by_cases c7 : (a1_0.toList == (((rd_T47 l0 x8_1).f0).toList) && (a1_1 == ((rd_T47 l0 x8_1).f1) && (a1_2 == ((rd_T47 l0 x8_1).f2) && (a1_3 == ((rd_T47 l0 x8_1).f3))))) = true
      ·rw [if_pos c7] at H
       have c7b0 : (a1_0.toList == (((rd_T47 l0 x8_1).f0).toList) && (a1_1 == ((rd_T47 l0 x8_1).f1) && (a1_2 == ((rd_T47 l0 x8_1).f2) && (a1_3 == ((rd_T47 l0 x8_1).f3))))) = true := c7
       (try (have c7b1 : decide (a1_0.toList = (((rd_T47 l0 x8_1).f0).toList) && (a1_1 == ((rd_T47 l0 x8_1).f1) && (a1_2 == ((rd_T47 l0 x8_1).f2) && (a1_3 == ((rd_T47 l0 x8_1).f3))))) = true := by simpa using c7))
       (try (have c7b2 : (a1_0.toList == (((rd_T47 l0 x8_1).f0).toList) && (a1_1 == ((rd_T47 l0 x8_1).f1) && (a1_2 == ((rd_T47 l0 x8_1).f2) && (a1_3 == ((rd_T47 l0 x8_1).f3))))) = true := by simpa using c7))
       clear c7
       obtain rfl := Option.some.inj H
       have hcz8_0 : wr.cell? ⟨gb523, 0, none⟩ = some (.string a1_0) := (zI BK523.out 0).trans rfl
       have hcz8_1 : wr.cell? ⟨gb523, 1, none⟩ = some (.int .i64 a1_1) := (zI BK523.out 1).trans rfl
       have hcz8_2 : wr.cell? ⟨gb523, 2, none⟩ = some (.int .i64 a1_2) := (zI BK523.out 2).trans rfl
       have hcz8_3 : wr.cell? ⟨gb523, 3, none⟩ = some (.int .i64 a1_3) := (zI BK523.out 3).trans rfl
       have hfz8_0 := zH BK523.out 0
       have hfz8_1 := zH BK523.out 1
       have hfz8_2 := zH BK523.out 2
       have hfz8_3 := zH BK523.out 3
       have p524 : 0 ≤ (x8_1 : Int) := zo
       have q524 : x8_1 < (l0.length : Int) := zo
       obtain ⟨ad524, e524, hx524_0, hx524_1, hx524_2, hx524_3⟩ := at_T47 HR0.out x8_1 p524 q524
       cases e524
       replace hx524_0 := zt HB.out hx524_0
       replace hx524_1 := zt HB.out hx524_1
       replace hx524_2 := zt HB.out hx524_2
       replace hx524_3 := zt HB.out hx524_3
       replace p524 := eq_true p524
       replace q524 := eq_true q524
       go_wp2
       repeat (go_quiet (fail); try go_wp2)
       go_ret
       exact ⟨yd, by repeat (first | (with_reducible first | exact HB.out | apply zA | apply zB | apply zC | refine zD ?_ GE523.out) | exact HB.out)⟩
      ·rw [if_neg c7] at H
       have c7b0 : (a1_0.toList == (((rd_T47 l0 x8_1).f0).toList) && (a1_1 == ((rd_T47 l0 x8_1).f1) && (a1_2 == ((rd_T47 l0 x8_1).f2) && (a1_3 == ((rd_T47 l0 x8_1).f3))))) = false := by simpa using c7
       (try (have c7b1 : decide (a1_0.toList = (((rd_T47 l0 x8_1).f0).toList) && (a1_1 == ((rd_T47 l0 x8_1).f1) && (a1_2 == ((rd_T47 l0 x8_1).f2) && (a1_3 == ((rd_T47 l0 x8_1).f3))))) = false := by simpa using c7))
       (try (have c7b2 : (a1_0.toList == (((rd_T47 l0 x8_1).f0).toList) && (a1_1 == ((rd_T47 l0 x8_1).f1) && (a1_2 == ((rd_T47 l0 x8_1).f2) && (a1_3 == ((rd_T47 l0 x8_1).f3))))) = false := by simpa using c7))
       (try (have c7b3 : ¬ (a1_0.toList = (((rd_T47 l0 x8_1).f0).toList) && (a1_1 == ((rd_T47 l0 x8_1).f1) && (a1_2 == ((rd_T47 l0 x8_1).f2) && (a1_3 == ((rd_T47 l0 x8_1).f3))))) := by simpa using c7))
       clear c7
       have H' := zK H
       clear H
       have hcz9_0 : wr.cell? ⟨gb523, 0, none⟩ = some (.string a1_0) := (zI BK523.out 0).trans rfl
       have hcz9_1 : wr.cell? ⟨gb523, 1, none⟩ = some (.int .i64 a1_1) := (zI BK523.out 1).trans rfl
       have hcz9_2 : wr.cell? ⟨gb523, 2, none⟩ = some (.int .i64 a1_2) := (zI BK523.out 2).trans rfl
       have hcz9_3 : wr.cell? ⟨gb523, 3, none⟩ = some (.int .i64 a1_3) := (zI BK523.out 3).trans rfl
       have hfz9_0 := zH BK523.out 0
       have hfz9_1 := zH BK523.out 1
       have hfz9_2 := zH BK523.out 2
       have hfz9_3 := zH BK523.out 3
       have p524 : 0 ≤ (x8_1 : Int) := zo
       have q524 : x8_1 < (l0.length : Int) := zo
       obtain ⟨ad524, e524, hx524_0, hx524_1, hx524_2, hx524_3⟩ := at_T47 HR0.out x8_1 p524 q524
       cases e524
       replace hx524_0 := zt HB.out hx524_0
       replace hx524_1 := zt HB.out hx524_1
       replace hx524_2 := zt HB.out hx524_2
       replace hx524_3 := zt HB.out hx524_3
       replace p524 := eq_true p524
       replace q524 := eq_true q524
       go_wp2
       repeat (go_quiet (fail); try go_wp2)
       go_roundg k1
       case measure => have := HK1.out; omega
       case rel => exact ⟨(wrap64 (x8_1 + 1)), ye, H', ⟨yb2⟩, ⟨yS BK523.out⟩, ⟨by repeat (first | (with_reducible first | exact HB.out | apply zA | apply zB | apply zC | refine zD ?_ GE523.out) | exact HB.out)⟩⟩
     ·rw [if_neg c6] at H
      exact absurd H ye1
    ·rw [if_neg c5] at H
     exact absurd H ye1
   ·rw [if_neg c4] at H
    have c4b0 : decide (x8_1 < (l0.length : Int)) = false := decide_eq_false c4
    clear c4
    obtain rfl := Option.some.inj H
    go_wp2
    repeat (go_quiet (fail); try go_wp2)
    go_ret
    exact ⟨yd, by repeat (first | (with_reducible first | exact HB.out | apply zA | apply zB | apply zC | refine zD ?_ GE523.out) | exact HB.out)⟩

/-! ### impl_Node_57: function 57 -/
def impl_Node_57.f (k : Nat) (l0 : List (S47)) (a1_0 : ByteArray) (a1_1 : Int) (a1_2 : Int) (a1_3 : Int) : Option (Bool) := (impl_Node_110.f k l0 a1_0 a1_1 a1_2 a1_3).bind fun t526 => (some (decide (t526 ≥ 0)))
set_option maxHeartbeats 8000000 in
set_option maxRecDepth 100000 in
theorem impl_Node_57.calls (k : Nat) (A0 : Option Addr) (c0 : Nat) (l0 : List (S47)) (a1_0 : ByteArray) (a1_1 : Int) (a1_2 : Int) (a1_3 : Int) (r : Bool) (w : World) (hr0 : Kd.C k47 w A0 l0.length l0) (hc0 : l0.length ≤ c0) (h : impl_Node_57.f k l0 a1_0 a1_1 a1_2 a1_3 = some r) :
  Calls Try.prog 57 #[.slice A0 l0.length c0, .agg #[.string a1_0, .int .i64 a1_1, .int .i64 a1_2, .int .i64 a1_3]] w fun e w' => e = .returned (.bool r) ∧ Below w.heap.size w w' := by
 have hu47 := Try.underlying47
 have HR0 := zK hr0
 have HC0 := zK hc0
 clear hr0 hc0
 have HB := zK (Below.refl w.heap.size w)
 have H : ((impl_Node_110.f k l0 a1_0 a1_1 a1_2 a1_3).bind fun t526 => (some (decide (t526 ≥ 0)))) = some r := h
 clear h
 replace H := Option.bind_eq_some_iff.mp H
 obtain ⟨t526, A30, H⟩ := H
 replace H : (some (decide (t526 ≥ 0))) = some r := H
 have A3 := zK A30
 clear A30
 obtain rfl := Option.some.inj H
 go_enter Try.func57, Try.ntmps57
 go_wp2_with (first | ((with_reducible refine gate_dst (N := 3) rfl ?_); refine box_event ?hg (N := 3) ?hd (cs := #[.string a1_0, .int .i64 a1_1, .int .i64 a1_2, .int .i64 a1_3]) (t := 47) ?hr ?_; (case hd | hg => rfl); (case hr => exact xxa); intro gb525 hg w4 hbox hb; have n0_ := zK (zL ya hb); have n1_ := zK (hbox); have n2_ := zK ((by rw [hg]; exact (zN ya) : w.heap.size ≤ gb525)); have n3_ := n2_; clear HB; have HB := n0_; have BK525 := n1_; have GW525 := n2_; have GE525 := n3_; clear n0_ n1_ n2_ n3_; clear hb hbox hg; have hcz5_0 : w4.cell? ⟨gb525, 0, none⟩ = some (.string a1_0) := (zI BK525.out 0).trans rfl; have hcz5_1 : w4.cell? ⟨gb525, 1, none⟩ = some (.int .i64 a1_1) := (zI BK525.out 1).trans rfl; have hcz5_2 : w4.cell? ⟨gb525, 2, none⟩ = some (.int .i64 a1_2) := (zI BK525.out 2).trans rfl; have hcz5_3 : w4.cell? ⟨gb525, 3, none⟩ = some (.int .i64 a1_3) := (zI BK525.out 3).trans rfl; have hfz5_0 := zH BK525.out 0; have hfz5_1 := zH BK525.out 1; have hfz5_2 := zH BK525.out 2; have hfz5_3 := zH BK525.out 3) | ((with_reducible refine gate_callee (f := 110) rfl ?_); refine goesL_ (some 7) rfl rfl Try.func110 yi rfl #[.slice A0 l0.length c0, .agg #[.string a1_0, .int .i64 a1_1, .int .i64 a1_2, .int .i64 a1_3]] rfl yb ?_; (with_reducible refine (impl_Node_110.calls k _ _ l0 a1_0 a1_1 a1_2 a1_3 t526 _ ?side1 ?side2 A3.out).mono ?_); (case side1 => exact xxd); (case side2 => exact HC0.out); rintro e w6 ⟨rfl, hb⟩; refine ⟨_, rfl, ?_⟩; have n0_ := zK (zM (g := gb525) (o := .cells #[.string a1_0, .int .i64 a1_1, .int .i64 a1_2, .int .i64 a1_3] 47 (0, 0)) (yS BK525.out) hb); have n1_ := zK (zL (by repeat (first | (with_reducible first | exact HB.out | apply zA | apply zB | apply zC | refine zD ?_ GE525.out) | exact HB.out)) hb); clear BK525; clear HB; have BK525 := n0_; have HB := n1_; clear n0_ n1_; (try clear hb); (try clear hb2); (try clear hk); (try clear hi)))
 go_ret
 exact ⟨yd, by repeat (first | (with_reducible first | exact HB.out | apply zA | apply zB | apply zC | refine zD ?_ GE525.out) | exact HB.out)⟩

/-! ### impl_inputs: function 98 -/
def impl_inputs.l0 : Nat → List (S47) → List Int → Int → Option (List Int)
 | 0, _, _, _ => none
 | k + 1, x0, x3, x6 => if x6 < 2 then ((impl_Node_57.f k x0 (⟨#[105, 110]⟩ : ByteArray) 0 0 x6).bind fun t530 => (if t530 = true then (if x3.length < 17592186044416 then (impl_inputs.l0 k x0 (x3 ++ [x6]) (wrap64 (x6 + 1))) else (none)) else (impl_inputs.l0 k x0 x3 (wrap64 (x6 + 1))))) else (some x3)
def impl_inputs.f (k : Nat) (l0 : List (S47)) : Option (List Int) := impl_inputs.l0 k l0 (([] : List Int)) 0
set_option maxHeartbeats 8000000 in
set_option maxRecDepth 100000 in
theorem impl_inputs.calls (k : Nat) (A0 : Option Addr) (c0 : Nat) (l0 : List (S47)) (r : List Int) (w : World) (hr0 : Kd.C k47 w A0 l0.length l0) (hc0 : l0.length ≤ c0) (h : impl_inputs.f k l0 = some r) :
  Calls Try.prog 98 #[.slice A0 l0.length c0] w fun e w' => ∃ v0_ : Value, e = .returned (v0_) ∧ Kd.R (Kd.int .i64) 3 w' w.heap.size (fun _ => True) v0_ r ∧ Below w.heap.size w w' := by
 have hu47 := Try.underlying47
 have HR0 := zK hr0
 have HC0 := zK hc0
 clear hr0 hc0
 have HB := zK (Below.refl w.heap.size w)
 have H : (impl_inputs.l0 k l0 (([] : List Int)) 0) = some r := h
 clear h
 obtain ⟨y527, hy527⟩ : ∃ y_ : List Int, y_ = (([] : List Int)) := ⟨_, rfl⟩
 replace H : (impl_inputs.l0 k l0 y527 0) = some r := by have hy_ := hy527; exact xH
 have Ny527 := zK hy527
 clear hy527
 have H' := zK H
 clear H
 go_enter Try.func98, Try.ntmps98
 go_wp2_with (first | ((with_reducible refine gate_dst (N := 5) rfl ?_); refine Kd.R_lit (Kd.int .i64) _ 3 ?hg (N := 5) ?hd (xs := ([] : List Int)) (inner := []) (ok := fun _ => True) (okp := fun _ => True) ?hr ?hp (fun _ hk => hk) trivial (Below.refl _ _) (Nat.le_refl _) ye1 ?_; (case hd | hg => rfl); (case hr => exact xxa); (case hp => exact (Reps.none _ _)); intro v528 w2 ho3 hb hg_ hnew_; clear hg_ hnew_; (first | rw [← Ny527.out] at ho3 | (simp only [Int.reduceToNat] at ho3; rw [← Ny527.out] at ho3)); have n0_ := zK (Kd.R_lower ho3 (zN ya)); have n1_ := zK (zL ya hb); clear HB; have HO529 := n0_; have HB := n1_; clear n0_ n1_; clear hb ho3))
 go_loopg [3, 6] k (fun kq v3 v6 w' => ∃ (x3_1 : List Int) (x6_1 : Int), v6 = .int .i64 x6_1 ∧ Aside0 (impl_inputs.l0 kq l0 x3_1 x6_1 = some r) ∧ Aside0 (kq ≤ k) ∧ Aside0 (Kd.R (Kd.int .i64) 3 w' w.heap.size (fun _ => True) v3 x3_1) ∧ Aside0 (Below w.heap.size w w'))
 case atStart => exact ⟨(y527), (0), ye, H', ⟨Nat.le_refl _⟩, ⟨yR HO529.out⟩, ⟨ya⟩⟩
 case round =>
  clear H'
  try clear p2
  obtain ⟨x3_1, x6_1, rfl, HA, HK1, HO_3, HB⟩ := hrel
  cases gk with
  | zero => exact absurd HA.out (by simp [impl_inputs.l0])
  | succ k1 =>
   have H := HA.out
   clear HA
   simp only [impl_inputs.l0] at H
   by_cases c4 : x6_1 < 2
   ·rw [if_pos c4] at H
    have c4b0 : decide (x6_1 < 2) = true := decide_eq_true c4
    clear c4
    replace H := Option.bind_eq_some_iff.mp H
    obtain ⟨t530, A50, H⟩ := H
    replace H : (if t530 = true then (if x3_1.length < 17592186044416 then (impl_inputs.l0 k1 l0 (x3_1 ++ [x6_1]) (wrap64 (x6_1 + 1))) else (none)) else (impl_inputs.l0 k1 l0 x3_1 (wrap64 (x6_1 + 1)))) = some r := H
    have A5 := zK A50
    clear A50
    by_cases c6 : t530 = true
    ·subst c6
     rw [if_pos rfl] at H
     by_cases c7 : x3_1.length < 17592186044416
     ·rw [if_pos c7] at H
      have LMc7 := zK c7
      clear c7
      obtain ⟨y531, hy531⟩ : ∃ y_ : List Int, y_ = (x3_1 ++ [x6_1]) := ⟨_, rfl⟩
      replace H : (impl_inputs.l0 k1 l0 y531 (wrap64 (x6_1 + 1))) = some r := by have hy_ := hy531; exact xH
      have Ny531 := zK hy531
      clear hy531
      have H' := zK H
      clear H
      go_wp2_with (first | ((with_reducible refine gate_callee (f := 57) rfl ?_); refine goesL_ (some 12) rfl rfl Try.func57 yi rfl #[.slice A0 l0.length c0, .agg #[.string (⟨#[105, 110]⟩ : ByteArray), .int .i64 0, .int .i64 0, .int .i64 x6_1]] rfl yb ?_; (with_reducible refine (impl_Node_57.calls k1 _ _ l0 (⟨#[105, 110]⟩ : ByteArray) 0 0 x6_1 true _ ?side1 ?side2 A5.out).mono ?_); (case side1 => exact xxd); (case side2 => exact HC0.out); rintro e w8 ⟨rfl, hb⟩; refine ⟨_, rfl, ?_⟩; have n0_ := zK (Kd.R_below yn hb); have n1_ := zK (zL ya hb); clear HO_3; clear HB; have HO_3 := n0_; have HB := n1_; clear n0_ n1_; (try clear hb); (try clear hb2); (try clear hk); (try clear hi)) | ((with_reducible refine gate_builtin (b := .append) (xs := #[.tmp 13, .tmp 15]) rfl ?_); at_builtin; refine Kd.R_append (Kd.int .i64) (w0 := w) w.heap.size rfl (.tmp 13) (.tmp 15) 31 3 (.int .i64 0) 8 rfl Try.underlying31 info3 rfl yp1 (by omega) u3 x3_1 x6_1 [.int .i64 x6_1] (fun _ => True) (fun _ => False) rfl rfl ?aP (fun _ hk => hk.elim) ?aF ?aO ?aB ?aS ?aL ?_; (case aP => exact rfl); (case aB => exact ya); (case aF => exact (fun _ _ => trivial)); (case aO => exact yn); (case aS => exact (zN ya)); (case aL => have := LMc7.out; omega); intro v532 w9 ho hb hg hat; rw [← Ny531.out] at ho; have n0_ := zK (hb); have n1_ := zK (ho); clear HB; clear HO_3; have HB := n0_; have HO533 := n1_; clear n0_ n1_; clear ho hb hg hat))
      go_roundg k1
      case measure => have := HK1.out; omega
      case rel => exact ⟨(y531), (wrap64 (x6_1 + 1)), ye, H', ⟨yb2⟩, ⟨yR HO533.out⟩, ⟨ya⟩⟩
     ·rw [if_neg c7] at H
      exact absurd H ye1
    ·replace c6 := Bool.eq_false_iff.mpr c6
     subst c6
     rw [if_neg (show ¬ (false = true) by decide)] at H
     have H' := zK H
     clear H
     go_wp2_with (first | ((with_reducible refine gate_callee (f := 57) rfl ?_); refine goesL_ (some 12) rfl rfl Try.func57 yi rfl #[.slice A0 l0.length c0, .agg #[.string (⟨#[105, 110]⟩ : ByteArray), .int .i64 0, .int .i64 0, .int .i64 x6_1]] rfl yb ?_; (with_reducible refine (impl_Node_57.calls k1 _ _ l0 (⟨#[105, 110]⟩ : ByteArray) 0 0 x6_1 false _ ?side1 ?side2 A5.out).mono ?_); (case side1 => exact xxd); (case side2 => exact HC0.out); rintro e w10 ⟨rfl, hb⟩; refine ⟨_, rfl, ?_⟩; have n0_ := zK (Kd.R_below yn hb); have n1_ := zK (zL ya hb); clear HO_3; clear HB; have HO_3 := n0_; have HB := n1_; clear n0_ n1_; (try clear hb); (try clear hb2); (try clear hk); (try clear hi)))
     go_roundg k1
     case measure => have := HK1.out; omega
     case rel => exact ⟨(x3_1), (wrap64 (x6_1 + 1)), ye, H', ⟨yb2⟩, ⟨yn⟩, ⟨ya⟩⟩
   ·rw [if_neg c4] at H
    have c4b0 : decide (x6_1 < 2) = false := decide_eq_false c4
    clear c4
    obtain rfl := Option.some.inj H
    go_wp2
    go_ret
    exact ⟨_, yd, yn, ya⟩

/-! ### impl_InputsOf: function 41 -/
def impl_InputsOf.f (k : Nat) (l0 : List (S47)) : Option (List Int × Bool) := (impl_IsExpr.f k l0).bind fun t534 => (if t534 = true then ((impl_inputs.f k l0).bind fun t535 => (some (t535, true))) else (some (([] : List Int), false)))
set_option maxHeartbeats 8000000 in
set_option maxRecDepth 100000 in
theorem impl_InputsOf.calls (k : Nat) (A0 : Option Addr) (c0 : Nat) (l0 : List (S47)) (r1 : List Int) (r2 : Bool) (w : World) (hr0 : Kd.C k47 w A0 l0.length l0) (hc0 : l0.length ≤ c0) (h : impl_InputsOf.f k l0 = some (r1, r2)) :
  Calls Try.prog 41 #[.slice A0 l0.length c0] w fun e w' => ∃ v0_ : Value, e = .returned (.tuple #[v0_, .bool r2]) ∧ Kd.R (Kd.int .i64) 3 w' w.heap.size (fun _ => True) v0_ r1 ∧ Below w.heap.size w w' := by
 have HR0 := zK hr0
 have HC0 := zK hc0
 clear hr0 hc0
 have HB := zK (Below.refl w.heap.size w)
 have H : ((impl_IsExpr.f k l0).bind fun t534 => (if t534 = true then ((impl_inputs.f k l0).bind fun t535 => (some (t535, true))) else (some (([] : List Int), false)))) = some (r1, r2) := h
 clear h
 replace H := Option.bind_eq_some_iff.mp H
 obtain ⟨t534, A20, H⟩ := H
 replace H : (if t534 = true then ((impl_inputs.f k l0).bind fun t535 => (some (t535, true))) else (some (([] : List Int), false))) = some (r1, r2) := H
 have A2 := zK A20
 clear A20
 by_cases c3 : t534 = true
 ·subst c3
  rw [if_pos rfl] at H
  replace H := Option.bind_eq_some_iff.mp H
  obtain ⟨t535, A40, H⟩ := H
  replace H : (some (t535, true)) = some (r1, r2) := H
  have A4 := zK A40
  clear A40
  simp only [Option.some.injEq, Prod.mk.injEq] at H
  obtain ⟨rfl, rfl⟩ := H
  go_enter Try.func41, Try.ntmps41
  go_wp2_with (first | ((with_reducible refine gate_callee (f := 20) rfl ?_); refine goesL_ (some 5) rfl rfl Try.func20 yi rfl #[.slice A0 l0.length c0] rfl yb ?_; (with_reducible refine (impl_IsExpr.calls k _ _ l0 true _ ?side1 ?side2 A2.out).mono ?_); (case side1 => exact xxc); (case side2 => exact HC0.out); rintro e w5 ⟨rfl, hb⟩; refine ⟨_, rfl, ?_⟩; have n0_ := zK (zL ya hb); clear HB; have HB := n0_; clear n0_; (try clear hb); (try clear hb2); (try clear hk); (try clear hi)) | ((with_reducible refine gate_callee (f := 98) rfl ?_); refine goesL_ (some 8) rfl rfl Try.func98 yi rfl #[.slice A0 l0.length c0] rfl yb ?_; (with_reducible refine (impl_inputs.calls k _ _ l0 t535 _ ?side1 ?side2 A4.out).mono ?_); (case side1 => exact xxd); (case side2 => exact HC0.out); rintro e w6 ⟨v536, rfl, ho0, hb⟩; refine ⟨_, rfl, ?_⟩; have n0_ := zK (Kd.R_lower ho0 (zN ya)); have n1_ := zK (zL ya hb); clear HB; have HO537 := n0_; have HB := n1_; clear n0_ n1_; (try clear hb); (try clear hb2); (try clear hk); (try clear hi); (try clear ho0)))
  go_ret2
  exact ⟨_, yd, yR HO537.out, ya⟩
 ·replace c3 := Bool.eq_false_iff.mpr c3
  subst c3
  rw [if_neg (show ¬ (false = true) by decide)] at H
  simp only [Option.some.injEq, Prod.mk.injEq] at H
  obtain ⟨rfl, rfl⟩ := H
  go_enter Try.func41, Try.ntmps41
  go_wp2_with (first | ((with_reducible refine gate_callee (f := 20) rfl ?_); refine goesL_ (some 5) rfl rfl Try.func20 yi rfl #[.slice A0 l0.length c0] rfl yb ?_; (with_reducible refine (impl_IsExpr.calls k _ _ l0 false _ ?side1 ?side2 A2.out).mono ?_); (case side1 => exact xxc); (case side2 => exact HC0.out); rintro e w7 ⟨rfl, hb⟩; refine ⟨_, rfl, ?_⟩; have n0_ := zK (zL ya hb); clear HB; have HB := n0_; clear n0_; (try clear hb); (try clear hb2); (try clear hk); (try clear hi)))
  go_ret2
  exact ⟨_, yd, yd1, ya⟩

/-! ### spec_l1Put: function 99 -/
def spec_l1Put.l0 : Nat → List Int → Int → Int → Option (List Int)
 | 0, _, _, _ => none
 | k + 1, x0, x1, x5 => if x5 < (x0.length : Int) then (if 0 ≤ x5 then (if (rd x0 x5) < x1 then (spec_l1Put.l0 k x0 x1 (wrap64 (x5 + 1))) else (if (rd x0 x5) = x1 then (some x0) else ((some (([] : List Int) : List Int)).bind fun y540 => (if x5 ≤ (x0.length : Int) then ((some (x0.take (x5 : Int).toNat : List Int)).bind fun y543 => (if y540.length + y543.length < 17592186044416 then ((some (y540 ++ y543 : List Int)).bind fun y547 => (if y547.length < 17592186044416 then ((some (y547 ++ [x1] : List Int)).bind fun y550 => ((some (x0.drop (x5 : Int).toNat : List Int)).bind fun y553 => (if y550.length + y553.length < 17592186044416 then (some (y550 ++ y553)) else (none)))) else (none))) else (none))) else (none))))) else (none)) else ((some (([] : List Int) : List Int)).bind fun y560 => (if 0 ≤ x5 then (if x5 ≤ (x0.length : Int) then ((some (x0.take (x5 : Int).toNat : List Int)).bind fun y563 => (if y560.length + y563.length < 17592186044416 then ((some (y560 ++ y563 : List Int)).bind fun y567 => (if y567.length < 17592186044416 then ((some (y567 ++ [x1] : List Int)).bind fun y570 => ((some (x0.drop (x5 : Int).toNat : List Int)).bind fun y573 => (if y570.length + y573.length < 17592186044416 then (some (y570 ++ y573)) else (none)))) else (none))) else (none))) else (none)) else (none)))
def spec_l1Put.f (k : Nat) (l0 : List Int) (a1 : Int) : Option (List Int) := spec_l1Put.l0 k l0 a1 0
set_option maxHeartbeats 8000000 in
set_option maxRecDepth 100000 in
theorem spec_l1Put.calls (k : Nat) (P0_ : Nat → Prop) (u9000_ : Value) (l0 : List Int) (a1 : Int) (r : List Int) (w0 w : World) (hB : Below w0.heap.size w0 w) (ho0 : Kd.R (Kd.int .i64) 3 w w0.heap.size P0_ u9000_ l0) (h : spec_l1Put.f k l0 a1 = some r) :
  Calls Try.prog 99 #[u9000_, .int .i64 a1] w fun e w' => ∃ v0_ : Value, e = .returned (v0_) ∧ Kd.R (Kd.int .i64) 3 w' w0.heap.size (fun k_ => (P0_ k_ ∨ w.heap.size ≤ k_)) v0_ r ∧ Below w0.heap.size w0 w' ∧ Kept w w' (fun k_ => P0_ k_) := by
 have HO0 := zK (show Kd.R (Kd.int .i64) 3 w w0.heap.size (fun k_ => (P0_ k_ ∨ w.heap.size ≤ k_)) u9000_ l0 from Kd.R_mono ho0 (fun k_ hk => (.inl hk)))
 have HK := zK (Kept.refl w (fun k_ => P0_ k_))
 have HW0 := zK hB.size
 have HB := zK hB
 clear hB
 have H : (spec_l1Put.l0 k l0 a1 0) = some r := h
 clear h
 have H' := zK H
 clear H
 go_enter Try.func99, Try.ntmps99
 go_wp2
 go_loopg [5] k (fun kq v5 w' => ∃ (x5_1 : Int), v5 = .int .i64 x5_1 ∧ Aside0 (spec_l1Put.l0 kq l0 a1 x5_1 = some r) ∧ Aside0 (kq ≤ k) ∧ Aside0 (Kd.R (Kd.int .i64) 3 w' w0.heap.size (fun k_ => (P0_ k_ ∨ w.heap.size ≤ k_)) u9000_ l0) ∧ Aside0 (Kept w w' (fun k_ => P0_ k_)) ∧ Aside0 (Below w0.heap.size w0 w'))
 case atStart => exact ⟨(0), ye, H', ⟨Nat.le_refl _⟩, ⟨yR HO0.out⟩, ⟨yu⟩, ⟨ya⟩⟩
 case round =>
  clear H'
  try clear p2
  obtain ⟨x5_1, rfl, HA, HK1, HO_0, HK, HB⟩ := hrel
  cases gk with
  | zero => exact absurd HA.out (by simp [spec_l1Put.l0])
  | succ k1 =>
   have H := HA.out
   clear HA
   simp only [spec_l1Put.l0] at H
   by_cases c3 : x5_1 < (l0.length : Int)
   ·rw [if_pos c3] at H
    have c3b0 : decide (x5_1 < (l0.length : Int)) = true := decide_eq_true c3
    clear c3
    by_cases c4 : 0 ≤ x5_1
    ·rw [if_pos c4] at H
     have c4b0 : decide (0 ≤ x5_1) = true := decide_eq_true c4
     clear c4
     by_cases c5 : (rd l0 x5_1) < a1
     ·rw [if_pos c5] at H
      have c5b0 : decide ((rd l0 x5_1) < a1) = true := decide_eq_true c5
      clear c5
      have H' := zK H
      clear H
      obtain ⟨Ao6, co6, eo6⟩ := Kd.R_slice HO_0.out
      subst eo6
      have p538 : 0 ≤ (x5_1 : Int) := zo
      have q538 : x5_1 < (l0.length : Int) := zo
      obtain ⟨ad538, e538, hx538_0⟩ := Kd.at_int (Kd.R_reads' HO_0.out).2.2 x5_1 p538 q538
      cases e538
      replace p538 := eq_true p538
      replace q538 := eq_true q538
      go_wp2
      go_roundg k1
      case measure => have := HK1.out; omega
      case rel => exact ⟨(wrap64 (x5_1 + 1)), ye, H', ⟨yb2⟩, ⟨yl⟩, ⟨yu⟩, ⟨ya⟩⟩
     ·rw [if_neg c5] at H
      have c5b0 : decide ((rd l0 x5_1) < a1) = false := decide_eq_false c5
      clear c5
      by_cases c7 : (rd l0 x5_1) = a1
      ·rw [if_pos c7] at H
       have c7b0 : ((rd l0 x5_1) == a1) = true := beq_iff_eq.mpr c7
       have c7b1 : ((rd l0 x5_1) != a1) = false := bne_eq_false_iff_eq.mpr c7
       clear c7
       obtain rfl := Option.some.inj H
       obtain ⟨Ao8, co8, eo8⟩ := Kd.R_slice HO_0.out
       subst eo8
       have p538 : 0 ≤ (x5_1 : Int) := zo
       have q538 : x5_1 < (l0.length : Int) := zo
       obtain ⟨ad538, e538, hx538_0⟩ := Kd.at_int (Kd.R_reads' HO_0.out).2.2 x5_1 p538 q538
       cases e538
       replace p538 := eq_true p538
       replace q538 := eq_true q538
       have p539 : 0 ≤ (x5_1 : Int) := zo
       have q539 : x5_1 < (l0.length : Int) := zo
       obtain ⟨ad539, e539, hx539_0⟩ := Kd.at_int (Kd.R_reads' HO_0.out).2.2 x5_1 p539 q539
       obtain rfl : ad538 = ad539 := (by injection e539)
       replace p539 := eq_true p539
       replace q539 := eq_true q539
       go_wp2
       go_ret
       exact ⟨_, yd, yl, ya, yu⟩
      ·rw [if_neg c7] at H
       have c7b0 : ((rd l0 x5_1) == a1) = false := beq_eq_false_iff_ne.mpr c7
       have c7b1 : ((rd l0 x5_1) != a1) = true := bne_iff_ne.mpr c7
       obtain ⟨y540, hy540⟩ : ∃ y_ : List Int, y_ = (([] : List Int)) := ⟨_, rfl⟩
       replace H : (if x5_1 ≤ (l0.length : Int) then ((some (l0.take (x5_1 : Int).toNat : List Int)).bind fun y543 => (if y540.length + y543.length < 17592186044416 then ((some (y540 ++ y543 : List Int)).bind fun y547 => (if y547.length < 17592186044416 then ((some (y547 ++ [a1] : List Int)).bind fun y550 => ((some (l0.drop (x5_1 : Int).toNat : List Int)).bind fun y553 => (if y550.length + y553.length < 17592186044416 then (some (y550 ++ y553)) else (none)))) else (none))) else (none))) else (none)) = some r := by have hy_ := hy540; exact xH
       have Ny540 := zK hy540
       clear hy540
       have c9b0 := eq_true (zo : 0 ≤ x5_1)
       by_cases c10 : x5_1 ≤ (l0.length : Int)
       ·rw [if_pos c10] at H
        have c10b0 := eq_true c10
        have c10b1 : decide (x5_1 ≤ (l0.length : Int)) = true := decide_eq_true c10
        clear c10
        obtain ⟨y543, hy543⟩ : ∃ y_ : List Int, y_ = (l0.take (x5_1 : Int).toNat) := ⟨_, rfl⟩
        replace H : (if y540.length + y543.length < 17592186044416 then ((some (y540 ++ y543 : List Int)).bind fun y547 => (if y547.length < 17592186044416 then ((some (y547 ++ [a1] : List Int)).bind fun y550 => ((some (l0.drop (x5_1 : Int).toNat : List Int)).bind fun y553 => (if y550.length + y553.length < 17592186044416 then (some (y550 ++ y553)) else (none)))) else (none))) else (none)) = some r := by have hy_ := hy543; exact xH
        have Ny543 := zK hy543
        clear hy543
        by_cases c11 : y540.length + y543.length < 17592186044416
        ·rw [if_pos c11] at H
         have LMc11 := zK c11
         clear c11
         obtain ⟨y547, hy547⟩ : ∃ y_ : List Int, y_ = (y540 ++ y543) := ⟨_, rfl⟩
         replace H : (if y547.length < 17592186044416 then ((some (y547 ++ [a1] : List Int)).bind fun y550 => ((some (l0.drop (x5_1 : Int).toNat : List Int)).bind fun y553 => (if y550.length + y553.length < 17592186044416 then (some (y550 ++ y553)) else (none)))) else (none)) = some r := by have hy_ := hy547; exact xH
         have Ny547 := zK hy547
         clear hy547
         by_cases c12 : y547.length < 17592186044416
         ·rw [if_pos c12] at H
          have LMc12 := zK c12
          clear c12
          obtain ⟨y550, hy550⟩ : ∃ y_ : List Int, y_ = (y547 ++ [a1]) := ⟨_, rfl⟩
          replace H : ((some (l0.drop (x5_1 : Int).toNat : List Int)).bind fun y553 => (if y550.length + y553.length < 17592186044416 then (some (y550 ++ y553)) else (none))) = some r := by have hy_ := hy550; exact xH
          have Ny550 := zK hy550
          clear hy550
          have c13b0 := eq_true (zo : 0 ≤ x5_1)
          have c14b0 := eq_true (zo : x5_1 ≤ (l0.length : Int))
          obtain ⟨y553, hy553⟩ : ∃ y_ : List Int, y_ = (l0.drop (x5_1 : Int).toNat) := ⟨_, rfl⟩
          replace H : (if y550.length + y553.length < 17592186044416 then (some (y550 ++ y553)) else (none)) = some r := by have hy_ := hy553; exact xH
          have Ny553 := zK hy553
          clear hy553
          by_cases c15 : y550.length + y553.length < 17592186044416
          ·rw [if_pos c15] at H
           have LMc15 := zK c15
           clear c15
           obtain ⟨y557, hy557⟩ : ∃ y_ : List Int, y_ = (y550 ++ y553) := ⟨_, rfl⟩
           replace H : (some y557) = some r := by have hy_ := hy557; exact xH
           have Ny557 := zK hy557
           clear hy557
           obtain rfl := Option.some.inj H
           obtain ⟨Ao16, co16, eo16⟩ := Kd.R_slice HO_0.out
           subst eo16
           have p538 : 0 ≤ (x5_1 : Int) := zo
           have q538 : x5_1 < (l0.length : Int) := zo
           obtain ⟨ad538, e538, hx538_0⟩ := Kd.at_int (Kd.R_reads' HO_0.out).2.2 x5_1 p538 q538
           cases e538
           replace p538 := eq_true p538
           replace q538 := eq_true q538
           have p539 : 0 ≤ (x5_1 : Int) := zo
           have q539 : x5_1 < (l0.length : Int) := zo
           obtain ⟨ad539, e539, hx539_0⟩ := Kd.at_int (Kd.R_reads' HO_0.out).2.2 x5_1 p539 q539
           obtain rfl : ad538 = ad539 := (by injection e539)
           replace p539 := eq_true p539
           replace q539 := eq_true q539
           go_wp2_with (first | ((with_reducible refine gate_dst (N := 34) rfl ?_); refine Kd.R_lit (Kd.int .i64) _ 3 ?hg (N := 34) ?hd (xs := ([] : List Int)) (inner := []) (ok := fun _ => True) (okp := fun _ => True) ?hr ?hp (fun _ hk => hk) trivial (Below.refl _ _) (Nat.le_refl _) ye1 ?_; (case hd | hg => rfl); (case hr => exact xxa); (case hp => exact (Reps.none _ _)); intro v541 w17 ho18 hb hg_ hnew_; clear hg_ hnew_; (first | rw [← Ny540.out] at ho18 | (simp only [Int.reduceToNat] at ho18; rw [← Ny540.out] at ho18)); have n0_ := zK (Kd.R_elder' yl (Kd.R_base ho18) hb); have n1_ := zK (Kd.R_lower (Kd.R_new' (Kd.R_newM (M := fun k_ => (P0_ k_ ∨ w.heap.size ≤ k_)) ho18 yv (fun k_ h_ => .inr h_)) (Kd.R_lt yl)) (zN ya)); have n2_ := zK (Kept.below (S := (fun k_ => P0_ k_)) yu hb); have n3_ := zK (zL ya hb); clear HO_0; clear HK; clear HB; have HO_0 := n0_; have HO542 := n1_; have HK := n2_; have HB := n3_; clear n0_ n1_ n2_ n3_; clear hb ho18; have q19 : (x5_1 : Int) ≤ ((l0.length : Int) : Int) := zo; obtain ⟨i019, hi019, _, hsz19, _⟩ := info_parts info3; have hroom19 : l0.length ≤ co16 := (Kd.R_reads' HO_0.out).2.1; have hC19 : Kd.C (Kd.int .i64) _ (some ad538) l0.length l0 := (Kd.R_reads' HO_0.out).2.2; have hcut19 := cut_to (P := Try.prog) 31 3 .i64 Try.underlying31 hi019 (some ad538) l0.length co16 x5_1 (zo) q19 hroom19; have hr19 := Kd.C_take (m := (x5_1 : Int).toNat) hC19 (by omega); have hy19 : y543.length = (x5_1 : Int).toNat := (by rw [Ny543.out, z5]; omega); rw [← Ny543.out] at hr19; rw [← hy19] at hcut19; have HR546 := zK hr19; have HC546 := zK (show y543.length ≤ co16 from by omega); clear hr19 hC19 hroom19 hi019 hsz19; have KY19 := zK hy19; clear hy19; have KL19 := zK (show (x5_1 : Int).toNat ≤ l0.length from by omega); replace q19 := eq_true q19) | ((with_reducible refine gate_builtin (b := .append) (xs := #[.tmp 34, .tmp 37]) rfl ?_); at_builtin; refine Kd.R_append_rows (Kd.int .i64) (w0 := w0) w0.heap.size rfl (.tmp 34) (.tmp 37) 31 3 (.int .i64 0) 8 rfl Try.underlying31 info3 rfl yp1 (by omega) v541 y540 y543 _ _ _ (fun k_ => (P0_ k_ ∨ w.heap.size ≤ k_) ∧ some k_ ≠ (.slice (some ad538) l0.length co16 : Value).ownBlock) (fun _ => False) rfl rfl ?aO ?aR (fun _ _ h => h) (fun _ h => h.elim) ?aF ?aB ?aS ?aL ?_; (case aR => repeat (first | exact (by repeat (first | (with_reducible exact HR546.out) | (with_reducible refine Kd.C_alloc ?_ _) | (with_reducible refine Kd.C_drewN ?_ _) | (with_reducible refine Kd.C_drew ?_) | exact HR546.out)) | (with_reducible refine Kd.C_alloc ?_ _) | (with_reducible refine Kd.C_drewN ?_ _) | (with_reducible refine Kd.C_drew ?_))); (case aB => exact ya); (case aF => exact xxo); (case aO => exact (by (with_reducible repeat (first | apply Kd.R_alloc | apply Kd.R_drewN | apply Kd.R_drew)); exact Kd.R_mono HO542.out (fun _ hk => ⟨hk.1.1, hk.2⟩))); (case aS => exact (zN ya)); (case aL => have := LMc11.out; omega); intro v548 w20 ho hb hg hat; rw [← Ny547.out] at ho; have n0_ := zK (Kd.R_after (ok := (fun k_ => (P0_ k_ ∨ w.heap.size ≤ k_))) yl hg hat); have n1_ := zK (hb); have n2_ := zK (Kept.of_grown (S := (fun k_ => P0_ k_)) hg yu (fun k_ e_ => (HO542.out.1 k_ e_).1.1)); have n3_ := zK ((show Kd.C (Kd.int .i64) w20 (some ad538) y543.length y543 from by rw [Ny543.out]; exact Kd.C_take (m := (x5_1 : Int).toNat) ((Kd.R_reads' (Kd.R_after (ok := (fun k_ => (P0_ k_ ∨ w.heap.size ≤ k_))) yl hg hat)).2.2) KL19.out)); have n4_ := zK (ho); clear HO_0; clear HB; clear HK; clear HR546; clear HO542; have HO_0 := n0_; have HB := n1_; have HK := n2_; have HR546 := n3_; have HO549 := n4_; clear n0_ n1_ n2_ n3_ n4_; clear ho hb hg hat) | ((with_reducible refine gate_builtin (b := .append) (xs := #[.tmp 39, .tmp 41]) rfl ?_); at_builtin; refine Kd.R_append (Kd.int .i64) (w0 := w0) w0.heap.size rfl (.tmp 39) (.tmp 41) 31 3 (.int .i64 0) 8 rfl Try.underlying31 info3 rfl yp1 (by omega) v548 y547 a1 [.int .i64 a1] (fun k_ => (P0_ k_ ∨ w.heap.size ≤ k_) ∧ some k_ ≠ (.slice (some ad538) l0.length co16 : Value).ownBlock) (fun _ => False) rfl rfl ?aP (fun _ hk => hk.elim) ?aF ?aO ?aB ?aS ?aL ?_; (case aP => exact rfl); (case aB => exact ya); (case aF => exact xxo); (case aO => exact (yR HO549.out)); (case aS => exact (zN ya)); (case aL => have := LMc12.out; omega); intro v551 w21 ho hb hg hat; rw [← Ny550.out] at ho; have n0_ := zK (Kd.R_after (ok := (fun k_ => (P0_ k_ ∨ w.heap.size ≤ k_))) yl hg hat); have n1_ := zK (hb); have n2_ := zK (Kept.of_grown (S := (fun k_ => P0_ k_)) hg yu (fun k_ e_ => (HO549.out.1 k_ e_).1)); have n3_ := zK ((show Kd.C (Kd.int .i64) w21 (some ad538) y543.length y543 from by rw [Ny543.out]; exact Kd.C_take (m := (x5_1 : Int).toNat) ((Kd.R_reads' (Kd.R_after (ok := (fun k_ => (P0_ k_ ∨ w.heap.size ≤ k_))) yl hg hat)).2.2) KL19.out)); have n4_ := zK (ho); clear HO_0; clear HB; clear HK; clear HR546; clear HO549; have HO_0 := n0_; have HB := n1_; have HK := n2_; have HR546 := n3_; have HO552 := n4_; clear n0_ n1_ n2_ n3_ n4_; clear ho hb hg hat; have q22 : (x5_1 : Int) ≤ ((l0.length : Int) : Int) := zo; obtain ⟨i022, hi022, _, hsz22, _⟩ := info_parts info3; have hroom22 : l0.length ≤ co16 := (Kd.R_reads' HO_0.out).2.1; have hC22 : Kd.C (Kd.int .i64) _ (some ad538) l0.length l0 := (Kd.R_reads' HO_0.out).2.2; have q022 : (0 : Int) ≤ (x5_1 : Int) := zo; have hcut22 := cut_from (P := Try.prog) 31 3 .i64 Try.underlying31 hi022 1 hsz22 (some ad538) l0.length co16 x5_1 q022 q22; have hr22 := Kd.C_drop (m := (x5_1 : Int).toNat) (c := co16) hC22 (by omega) hroom22; obtain ⟨A22, hA22⟩ : ∃ A1, A1 = (if co16 = (x5_1 : Int).toNat then (some ad538) else ((some ad538) : Option Addr).map (·.add ((x5_1 : Int).toNat * 1))) := ⟨_, rfl⟩; obtain ⟨c22, hc22⟩ : ∃ c1, c1 = co16 - (x5_1 : Int).toNat := ⟨_, rfl⟩; have hy22 : y553.length = l0.length - (x5_1 : Int).toNat := (by rw [Ny553.out, z4] <;> omega); rw [show (l0).drop (x5_1 : Int).toNat = y553 from Ny553.out.symm] at hr22; replace hr22 : Kd.C (Kd.int .i64) _ A22 y553.length y553 := (by rw [hA22]; exact hr22); rw [← hy22, ← hA22, ← hc22] at hcut22; have HR556 := zK hr22; have HC556 := zK (show y553.length ≤ c22 from by rw [hy22, hc22]; exact Nat.sub_le_sub_right hroom22 _); clear hr22 hC22 hroom22 hi022 hsz22 hc22; have KY22 := zK hy22; have KA22 := zK hA22; clear hy22 hA22; have KL22 := zK (show (x5_1 : Int).toNat ≤ l0.length from by omega); replace q22 := eq_true q22) | ((with_reducible refine gate_builtin (b := .append) (xs := #[.tmp 43, .tmp 46]) rfl ?_); at_builtin; refine Kd.R_append_rows (Kd.int .i64) (w0 := w0) w0.heap.size rfl (.tmp 43) (.tmp 46) 31 3 (.int .i64 0) 8 rfl Try.underlying31 info3 rfl yp1 (by omega) v551 y550 y553 _ _ _ (fun k_ => (P0_ k_ ∨ w.heap.size ≤ k_) ∧ some k_ ≠ (.slice (some ad538) l0.length co16 : Value).ownBlock) (fun _ => False) rfl rfl ?aO ?aR (fun _ _ h => h) (fun _ h => h.elim) ?aF ?aB ?aS ?aL ?_; (case aR => repeat (first | exact (by repeat (first | (with_reducible exact HR556.out) | (with_reducible refine Kd.C_alloc ?_ _) | (with_reducible refine Kd.C_drewN ?_ _) | (with_reducible refine Kd.C_drew ?_) | exact HR556.out)) | (with_reducible refine Kd.C_alloc ?_ _) | (with_reducible refine Kd.C_drewN ?_ _) | (with_reducible refine Kd.C_drew ?_))); (case aB => exact ya); (case aF => exact xxo); (case aO => exact (yR HO552.out)); (case aS => exact (zN ya)); (case aL => have := LMc15.out; omega); intro v558 w23 ho hb hg hat; rw [← Ny557.out] at ho; have n0_ := zK (Kd.R_after (ok := (fun k_ => (P0_ k_ ∨ w.heap.size ≤ k_))) yl hg hat); have n1_ := zK (hb); have n2_ := zK (Kept.of_grown (S := (fun k_ => P0_ k_)) hg yu (fun k_ e_ => (HO552.out.1 k_ e_).1)); have n3_ := zK ((show Kd.C (Kd.int .i64) w23 (some ad538) y543.length y543 from by rw [Ny543.out]; exact Kd.C_take (m := (x5_1 : Int).toNat) ((Kd.R_reads' (Kd.R_after (ok := (fun k_ => (P0_ k_ ∨ w.heap.size ≤ k_))) yl hg hat)).2.2) KL19.out)); have n4_ := zK ((show Kd.C (Kd.int .i64) w23 A22 y553.length y553 from by rw [Ny553.out, KA22.out]; exact Kd.C_drop (m := (x5_1 : Int).toNat) (c := co16) ((Kd.R_reads' (Kd.R_after (ok := (fun k_ => (P0_ k_ ∨ w.heap.size ≤ k_))) yl hg hat)).2.2) KL22.out ((Kd.R_reads' (Kd.R_after (ok := (fun k_ => (P0_ k_ ∨ w.heap.size ≤ k_))) yl hg hat)).2.1))); have n5_ := zK (ho); clear HO_0; clear HB; clear HK; clear HR546; clear HR556; clear HO552; have HO_0 := n0_; have HB := n1_; have HK := n2_; have HR546 := n3_; have HR556 := n4_; have HO559 := n5_; clear n0_ n1_ n2_ n3_ n4_ n5_; clear ho hb hg hat))
           go_ret
           exact ⟨_, yd, by (with_reducible repeat (first | apply Kd.R_alloc | apply Kd.R_drewN | apply Kd.R_drew)); exact Kd.R_mono HO559.out (fun _ hk => hk.1), ya, yu⟩
          ·rw [if_neg c15] at H
           exact absurd H ye1
         ·rw [if_neg c12] at H
          exact absurd H ye1
        ·rw [if_neg c11] at H
         exact absurd H ye1
       ·rw [if_neg c10] at H
        exact absurd H ye1
    ·rw [if_neg c4] at H
     exact absurd H ye1
   ·rw [if_neg c3] at H
    have c3b0 : decide (x5_1 < (l0.length : Int)) = false := decide_eq_false c3
    clear c3
    obtain ⟨y560, hy560⟩ : ∃ y_ : List Int, y_ = (([] : List Int)) := ⟨_, rfl⟩
    replace H : (if 0 ≤ x5_1 then (if x5_1 ≤ (l0.length : Int) then ((some (l0.take (x5_1 : Int).toNat : List Int)).bind fun y563 => (if y560.length + y563.length < 17592186044416 then ((some (y560 ++ y563 : List Int)).bind fun y567 => (if y567.length < 17592186044416 then ((some (y567 ++ [a1] : List Int)).bind fun y570 => ((some (l0.drop (x5_1 : Int).toNat : List Int)).bind fun y573 => (if y570.length + y573.length < 17592186044416 then (some (y570 ++ y573)) else (none)))) else (none))) else (none))) else (none)) else (none)) = some r := by have hy_ := hy560; exact xH
    have Ny560 := zK hy560
    clear hy560
    by_cases c24 : 0 ≤ x5_1
    ·rw [if_pos c24] at H
     have c24b0 := eq_true c24
     have c24b1 : decide (0 ≤ x5_1) = true := decide_eq_true c24
     clear c24
     by_cases c25 : x5_1 ≤ (l0.length : Int)
     ·rw [if_pos c25] at H
      have c25b0 := eq_true c25
      have c25b1 : decide (x5_1 ≤ (l0.length : Int)) = true := decide_eq_true c25
      clear c25
      obtain ⟨y563, hy563⟩ : ∃ y_ : List Int, y_ = (l0.take (x5_1 : Int).toNat) := ⟨_, rfl⟩
      replace H : (if y560.length + y563.length < 17592186044416 then ((some (y560 ++ y563 : List Int)).bind fun y567 => (if y567.length < 17592186044416 then ((some (y567 ++ [a1] : List Int)).bind fun y570 => ((some (l0.drop (x5_1 : Int).toNat : List Int)).bind fun y573 => (if y570.length + y573.length < 17592186044416 then (some (y570 ++ y573)) else (none)))) else (none))) else (none)) = some r := by have hy_ := hy563; exact xH
      have Ny563 := zK hy563
      clear hy563
      by_cases c26 : y560.length + y563.length < 17592186044416
      ·rw [if_pos c26] at H
       have LMc26 := zK c26
       clear c26
       obtain ⟨y567, hy567⟩ : ∃ y_ : List Int, y_ = (y560 ++ y563) := ⟨_, rfl⟩
       replace H : (if y567.length < 17592186044416 then ((some (y567 ++ [a1] : List Int)).bind fun y570 => ((some (l0.drop (x5_1 : Int).toNat : List Int)).bind fun y573 => (if y570.length + y573.length < 17592186044416 then (some (y570 ++ y573)) else (none)))) else (none)) = some r := by have hy_ := hy567; exact xH
       have Ny567 := zK hy567
       clear hy567
       by_cases c27 : y567.length < 17592186044416
       ·rw [if_pos c27] at H
        have LMc27 := zK c27
        clear c27
        obtain ⟨y570, hy570⟩ : ∃ y_ : List Int, y_ = (y567 ++ [a1]) := ⟨_, rfl⟩
        replace H : ((some (l0.drop (x5_1 : Int).toNat : List Int)).bind fun y573 => (if y570.length + y573.length < 17592186044416 then (some (y570 ++ y573)) else (none))) = some r := by have hy_ := hy570; exact xH
        have Ny570 := zK hy570
        clear hy570
        have c28b0 := eq_true (zo : 0 ≤ x5_1)
        have c29b0 := eq_true (zo : x5_1 ≤ (l0.length : Int))
        obtain ⟨y573, hy573⟩ : ∃ y_ : List Int, y_ = (l0.drop (x5_1 : Int).toNat) := ⟨_, rfl⟩
        replace H : (if y570.length + y573.length < 17592186044416 then (some (y570 ++ y573)) else (none)) = some r := by have hy_ := hy573; exact xH
        have Ny573 := zK hy573
        clear hy573
        by_cases c30 : y570.length + y573.length < 17592186044416
        ·rw [if_pos c30] at H
         have LMc30 := zK c30
         clear c30
         obtain ⟨y577, hy577⟩ : ∃ y_ : List Int, y_ = (y570 ++ y573) := ⟨_, rfl⟩
         replace H : (some y577) = some r := by have hy_ := hy577; exact xH
         have Ny577 := zK hy577
         clear hy577
         obtain rfl := Option.some.inj H
         obtain ⟨Ao31, co31, eo31⟩ := Kd.R_slice HO_0.out
         subst eo31
         go_wp2_with (first | ((with_reducible refine gate_dst (N := 34) rfl ?_); refine Kd.R_lit (Kd.int .i64) _ 3 ?hg (N := 34) ?hd (xs := ([] : List Int)) (inner := []) (ok := fun _ => True) (okp := fun _ => True) ?hr ?hp (fun _ hk => hk) trivial (Below.refl _ _) (Nat.le_refl _) ye1 ?_; (case hd | hg => rfl); (case hr => exact xxa); (case hp => exact (Reps.none _ _)); intro v561 w32 ho33 hb hg_ hnew_; clear hg_ hnew_; (first | rw [← Ny560.out] at ho33 | (simp only [Int.reduceToNat] at ho33; rw [← Ny560.out] at ho33)); have n0_ := zK (Kd.R_elder' yl (Kd.R_base ho33) hb); have n1_ := zK (Kd.R_lower (Kd.R_new' (Kd.R_newM (M := fun k_ => (P0_ k_ ∨ w.heap.size ≤ k_)) ho33 yv (fun k_ h_ => .inr h_)) (Kd.R_lt yl)) (zN ya)); have n2_ := zK (Kept.below (S := (fun k_ => P0_ k_)) yu hb); have n3_ := zK (zL ya hb); clear HO_0; clear HK; clear HB; have HO_0 := n0_; have HO562 := n1_; have HK := n2_; have HB := n3_; clear n0_ n1_ n2_ n3_; clear hb ho33; have q34 : (x5_1 : Int) ≤ ((l0.length : Int) : Int) := zo; obtain ⟨i034, hi034, _, hsz34, _⟩ := info_parts info3; have hroom34 : l0.length ≤ co31 := (Kd.R_reads' HO_0.out).2.1; have hC34 : Kd.C (Kd.int .i64) _ Ao31 l0.length l0 := (Kd.R_reads' HO_0.out).2.2; have hcut34 := cut_to (P := Try.prog) 31 3 .i64 Try.underlying31 hi034 Ao31 l0.length co31 x5_1 (zo) q34 hroom34; have hr34 := Kd.C_take (m := (x5_1 : Int).toNat) hC34 (by omega); have hy34 : y563.length = (x5_1 : Int).toNat := (by rw [Ny563.out, z5]; omega); rw [← Ny563.out] at hr34; rw [← hy34] at hcut34; have HR566 := zK hr34; have HC566 := zK (show y563.length ≤ co31 from by omega); clear hr34 hC34 hroom34 hi034 hsz34; have KY34 := zK hy34; clear hy34; have KL34 := zK (show (x5_1 : Int).toNat ≤ l0.length from by omega); replace q34 := eq_true q34) | ((with_reducible refine gate_builtin (b := .append) (xs := #[.tmp 34, .tmp 37]) rfl ?_); at_builtin; refine Kd.R_append_rows (Kd.int .i64) (w0 := w0) w0.heap.size rfl (.tmp 34) (.tmp 37) 31 3 (.int .i64 0) 8 rfl Try.underlying31 info3 rfl yp1 (by omega) v561 y560 y563 _ _ _ (fun k_ => (P0_ k_ ∨ w.heap.size ≤ k_) ∧ some k_ ≠ (.slice Ao31 l0.length co31 : Value).ownBlock) (fun _ => False) rfl rfl ?aO ?aR (fun _ _ h => h) (fun _ h => h.elim) ?aF ?aB ?aS ?aL ?_; (case aR => repeat (first | exact (by repeat (first | (with_reducible exact HR566.out) | (with_reducible refine Kd.C_alloc ?_ _) | (with_reducible refine Kd.C_drewN ?_ _) | (with_reducible refine Kd.C_drew ?_) | exact HR566.out)) | (with_reducible refine Kd.C_alloc ?_ _) | (with_reducible refine Kd.C_drewN ?_ _) | (with_reducible refine Kd.C_drew ?_))); (case aB => exact ya); (case aF => exact xxo); (case aO => exact (by (with_reducible repeat (first | apply Kd.R_alloc | apply Kd.R_drewN | apply Kd.R_drew)); exact Kd.R_mono HO562.out (fun _ hk => ⟨hk.1.1, hk.2⟩))); (case aS => exact (zN ya)); (case aL => have := LMc26.out; omega); intro v568 w35 ho hb hg hat; rw [← Ny567.out] at ho; have n0_ := zK (Kd.R_after (ok := (fun k_ => (P0_ k_ ∨ w.heap.size ≤ k_))) yl hg hat); have n1_ := zK (hb); have n2_ := zK (Kept.of_grown (S := (fun k_ => P0_ k_)) hg yu (fun k_ e_ => (HO562.out.1 k_ e_).1.1)); have n3_ := zK ((show Kd.C (Kd.int .i64) w35 Ao31 y563.length y563 from by rw [Ny563.out]; exact Kd.C_take (m := (x5_1 : Int).toNat) ((Kd.R_reads' (Kd.R_after (ok := (fun k_ => (P0_ k_ ∨ w.heap.size ≤ k_))) yl hg hat)).2.2) KL34.out)); have n4_ := zK (ho); clear HO_0; clear HB; clear HK; clear HR566; clear HO562; have HO_0 := n0_; have HB := n1_; have HK := n2_; have HR566 := n3_; have HO569 := n4_; clear n0_ n1_ n2_ n3_ n4_; clear ho hb hg hat) | ((with_reducible refine gate_builtin (b := .append) (xs := #[.tmp 39, .tmp 41]) rfl ?_); at_builtin; refine Kd.R_append (Kd.int .i64) (w0 := w0) w0.heap.size rfl (.tmp 39) (.tmp 41) 31 3 (.int .i64 0) 8 rfl Try.underlying31 info3 rfl yp1 (by omega) v568 y567 a1 [.int .i64 a1] (fun k_ => (P0_ k_ ∨ w.heap.size ≤ k_) ∧ some k_ ≠ (.slice Ao31 l0.length co31 : Value).ownBlock) (fun _ => False) rfl rfl ?aP (fun _ hk => hk.elim) ?aF ?aO ?aB ?aS ?aL ?_; (case aP => exact rfl); (case aB => exact ya); (case aF => exact xxo); (case aO => exact (yR HO569.out)); (case aS => exact (zN ya)); (case aL => have := LMc27.out; omega); intro v571 w36 ho hb hg hat; rw [← Ny570.out] at ho; have n0_ := zK (Kd.R_after (ok := (fun k_ => (P0_ k_ ∨ w.heap.size ≤ k_))) yl hg hat); have n1_ := zK (hb); have n2_ := zK (Kept.of_grown (S := (fun k_ => P0_ k_)) hg yu (fun k_ e_ => (HO569.out.1 k_ e_).1)); have n3_ := zK ((show Kd.C (Kd.int .i64) w36 Ao31 y563.length y563 from by rw [Ny563.out]; exact Kd.C_take (m := (x5_1 : Int).toNat) ((Kd.R_reads' (Kd.R_after (ok := (fun k_ => (P0_ k_ ∨ w.heap.size ≤ k_))) yl hg hat)).2.2) KL34.out)); have n4_ := zK (ho); clear HO_0; clear HB; clear HK; clear HR566; clear HO569; have HO_0 := n0_; have HB := n1_; have HK := n2_; have HR566 := n3_; have HO572 := n4_; clear n0_ n1_ n2_ n3_ n4_; clear ho hb hg hat; have q37 : (x5_1 : Int) ≤ ((l0.length : Int) : Int) := zo; obtain ⟨i037, hi037, _, hsz37, _⟩ := info_parts info3; have hroom37 : l0.length ≤ co31 := (Kd.R_reads' HO_0.out).2.1; have hC37 : Kd.C (Kd.int .i64) _ Ao31 l0.length l0 := (Kd.R_reads' HO_0.out).2.2; have q037 : (0 : Int) ≤ (x5_1 : Int) := zo; have hcut37 := cut_from (P := Try.prog) 31 3 .i64 Try.underlying31 hi037 1 hsz37 Ao31 l0.length co31 x5_1 q037 q37; have hr37 := Kd.C_drop (m := (x5_1 : Int).toNat) (c := co31) hC37 (by omega) hroom37; obtain ⟨A37, hA37⟩ : ∃ A1, A1 = (if co31 = (x5_1 : Int).toNat then Ao31 else (Ao31 : Option Addr).map (·.add ((x5_1 : Int).toNat * 1))) := ⟨_, rfl⟩; obtain ⟨c37, hc37⟩ : ∃ c1, c1 = co31 - (x5_1 : Int).toNat := ⟨_, rfl⟩; have hy37 : y573.length = l0.length - (x5_1 : Int).toNat := (by rw [Ny573.out, z4] <;> omega); rw [show (l0).drop (x5_1 : Int).toNat = y573 from Ny573.out.symm] at hr37; replace hr37 : Kd.C (Kd.int .i64) _ A37 y573.length y573 := (by rw [hA37]; exact hr37); rw [← hy37, ← hA37, ← hc37] at hcut37; have HR576 := zK hr37; have HC576 := zK (show y573.length ≤ c37 from by rw [hy37, hc37]; exact Nat.sub_le_sub_right hroom37 _); clear hr37 hC37 hroom37 hi037 hsz37 hc37; have KY37 := zK hy37; have KA37 := zK hA37; clear hy37 hA37; have KL37 := zK (show (x5_1 : Int).toNat ≤ l0.length from by omega); replace q37 := eq_true q37) | ((with_reducible refine gate_builtin (b := .append) (xs := #[.tmp 43, .tmp 46]) rfl ?_); at_builtin; refine Kd.R_append_rows (Kd.int .i64) (w0 := w0) w0.heap.size rfl (.tmp 43) (.tmp 46) 31 3 (.int .i64 0) 8 rfl Try.underlying31 info3 rfl yp1 (by omega) v571 y570 y573 _ _ _ (fun k_ => (P0_ k_ ∨ w.heap.size ≤ k_) ∧ some k_ ≠ (.slice Ao31 l0.length co31 : Value).ownBlock) (fun _ => False) rfl rfl ?aO ?aR (fun _ _ h => h) (fun _ h => h.elim) ?aF ?aB ?aS ?aL ?_; (case aR => repeat (first | exact (by repeat (first | (with_reducible exact HR576.out) | (with_reducible refine Kd.C_alloc ?_ _) | (with_reducible refine Kd.C_drewN ?_ _) | (with_reducible refine Kd.C_drew ?_) | exact HR576.out)) | (with_reducible refine Kd.C_alloc ?_ _) | (with_reducible refine Kd.C_drewN ?_ _) | (with_reducible refine Kd.C_drew ?_))); (case aB => exact ya); (case aF => exact xxo); (case aO => exact (yR HO572.out)); (case aS => exact (zN ya)); (case aL => have := LMc30.out; omega); intro v578 w38 ho hb hg hat; rw [← Ny577.out] at ho; have n0_ := zK (Kd.R_after (ok := (fun k_ => (P0_ k_ ∨ w.heap.size ≤ k_))) yl hg hat); have n1_ := zK (hb); have n2_ := zK (Kept.of_grown (S := (fun k_ => P0_ k_)) hg yu (fun k_ e_ => (HO572.out.1 k_ e_).1)); have n3_ := zK ((show Kd.C (Kd.int .i64) w38 Ao31 y563.length y563 from by rw [Ny563.out]; exact Kd.C_take (m := (x5_1 : Int).toNat) ((Kd.R_reads' (Kd.R_after (ok := (fun k_ => (P0_ k_ ∨ w.heap.size ≤ k_))) yl hg hat)).2.2) KL34.out)); have n4_ := zK ((show Kd.C (Kd.int .i64) w38 A37 y573.length y573 from by rw [Ny573.out, KA37.out]; exact Kd.C_drop (m := (x5_1 : Int).toNat) (c := co31) ((Kd.R_reads' (Kd.R_after (ok := (fun k_ => (P0_ k_ ∨ w.heap.size ≤ k_))) yl hg hat)).2.2) KL37.out ((Kd.R_reads' (Kd.R_after (ok := (fun k_ => (P0_ k_ ∨ w.heap.size ≤ k_))) yl hg hat)).2.1))); have n5_ := zK (ho); clear HO_0; clear HB; clear HK; clear HR566; clear HR576; clear HO572; have HO_0 := n0_; have HB := n1_; have HK := n2_; have HR566 := n3_; have HR576 := n4_; have HO579 := n5_; clear n0_ n1_ n2_ n3_ n4_ n5_; clear ho hb hg hat))
         go_ret
         exact ⟨_, yd, by (with_reducible repeat (first | apply Kd.R_alloc | apply Kd.R_drewN | apply Kd.R_drew)); exact Kd.R_mono HO579.out (fun _ hk => hk.1), ya, yu⟩
        ·rw [if_neg c30] at H
         exact absurd H ye1
       ·rw [if_neg c27] at H
        exact absurd H ye1
      ·rw [if_neg c26] at H
       exact absurd H ye1
     ·rw [if_neg c25] at H
      exact absurd H ye1
    ·rw [if_neg c24] at H
     exact absurd H ye1

end Go.Proofs.Ytlcplhcccgbmnaa.D
