/- Contracts: spec_l1Cur_anyExpr, spec_newstate, spec_DrawFoldExpr, impl_Node_58. -/
import Derived.Test.YtlcplhcccgbmnaaDK
import Derived.Test.YtlcplhcccgbmnaaDSpecL1CurNext
import Derived.Test.YtlcplhcccgbmnaaDSpecExGood
import Derived.Test.YtlcplhcccgbmnaaDSpecL1Expr
import Derived.Lib.SliceRun
namespace Go.Proofs.Ytlcplhcccgbmnaa.D
open Go.RowKit Go.Proofs.YtlcplhcccgbmnaaW.PrintWords Go.Proofs.YtlcplhcccgbmnaaW.PrintLast Go.Proofs.YtlcplhcccgbmnaaW.PrintMore
attribute [local go_sem] max2_int min2_int max_two min_two max_three min_three max_four min_four   -- for this text's walks alone
set_option linter.unusedVariables false
set_option linter.unusedSimpArgs false

/-! ### spec_l1Cur_anyExpr: function 54 -/
def spec_l1Cur_anyExpr.l0 : Nat → List (S47) → List Int → Int → Int → Option ((List (S47)) × Int × Int)
 | 0, _, _, _, _ => none
 | k + 1, x5, x1000, x1001, x1002 => (spec_l1Cur_pick.f x1000 x1001 x1002 2).bind fun bt337 => (if (x5.length : Int) < (wrap64 (24 + bt337.1)) then (if x5.length < 3518437208883 then (spec_l1Cur_anyExpr.l0 k (x5 ++ [(⟨(⟨#[97, 100, 100]⟩ : ByteArray), wrap64 ((x5.length : Int) - 1), wrap64 ((x5.length : Int) - 1), 0⟩ : S47)]) x1000 bt337.2.1 bt337.2.2) else (none)) else (some (x5, bt337.2.1, bt337.2.2)))
def spec_l1Cur_anyExpr.f (k : Nat) (s0_0 : List Int) (s0_1 : Int) (s0_2 : Int) (a1 : Int) : Option ((List (S47)) × Int × Int) := (spec_l1Cur_expr.f s0_0 s0_1 s0_2 a1).bind fun bt296 => ((spec_l1Cur_pick.f s0_0 bt296.2.1 bt296.2.2 16).bind fun bt301 => (if bt301.1 = 0 then ((spec_l1Cur_pick.f s0_0 bt301.2.1 bt301.2.2 (bt296.1.length : Int)).bind fun bt304 => ((spec_l1Cur_pick.f s0_0 bt304.2.1 bt304.2.2 (wrap64 ((bt296.1.length : Int) + 2))).bind fun bt307 => (if 0 ≤ bt304.1 then (if bt304.1 < (bt296.1.length : Int) then (some ((bt296.1.set (bt304.1 : Int).toNat (⟨(rd_T47 bt296.1 bt304.1).f0, wrap64 (bt307.1 - 1), (rd_T47 bt296.1 bt304.1).f2, (rd_T47 bt296.1 bt304.1).f3⟩ : S47)), bt307.2.1, bt307.2.2)) else (none)) else (none)))) else (if bt301.1 = 1 then ((spec_l1Cur_pick.f s0_0 bt301.2.1 bt301.2.2 (bt296.1.length : Int)).bind fun bt311 => ((spec_l1Cur_of.f s0_0 bt311.2.1 bt311.2.2 (([(⟨#[]⟩ : ByteArray), (⟨#[105, 110]⟩ : ByteArray), (⟨#[99, 111, 110, 115, 116]⟩ : ByteArray), (⟨#[97, 110, 100]⟩ : ByteArray), (⟨#[110, 97, 110, 100]⟩ : ByteArray), (⟨#[110, 111, 116]⟩ : ByteArray)] : List ByteArray))).bind fun bt317 => (if 0 ≤ bt311.1 then (if bt311.1 < (bt296.1.length : Int) then (some ((bt296.1.set (bt311.1 : Int).toNat (⟨bt317.1, (rd_T47 bt296.1 bt311.1).f1, (rd_T47 bt296.1 bt311.1).f2, (rd_T47 bt296.1 bt311.1).f3⟩ : S47)), bt317.2.1, bt317.2.2)) else (none)) else (none)))) else (if bt301.1 = 2 then ((spec_l1Cur_pick.f s0_0 bt301.2.1 bt301.2.2 (bt296.1.length : Int)).bind fun bt321 => ((spec_l1Cur_among.f s0_0 bt321.2.1 bt321.2.2 (([(-1), 0, 1, 2, 63, 64] : List Int))).bind fun bt327 => (if 0 ≤ bt321.1 then (if bt321.1 < (bt296.1.length : Int) then (some ((bt296.1.set (bt321.1 : Int).toNat (⟨(rd_T47 bt296.1 bt321.1).f0, (rd_T47 bt296.1 bt321.1).f1, (rd_T47 bt296.1 bt321.1).f2, bt327.1⟩ : S47)), bt327.2.1, bt327.2.2)) else (none)) else (none)))) else (if bt301.1 = 3 then (if bt296.1.length < 3518437208883 then (some ((bt296.1 ++ [(⟨(⟨#[105, 110]⟩ : ByteArray), 0, 0, 0⟩ : S47)]), bt301.2.1, bt301.2.2)) else (none)) else (if bt301.1 = 4 then (spec_l1Cur_anyExpr.l0 k (([(⟨(⟨#[105, 110]⟩ : ByteArray), 0, 0, 0⟩ : S47)] : List (S47))) s0_0 bt301.2.1 bt301.2.2) else (if bt301.1 = 5 then (some (([] : List (S47)), bt301.2.1, bt301.2.2)) else (some (bt296.1, bt301.2.1, bt301.2.2)))))))))
set_option maxHeartbeats 8000000 in
set_option maxRecDepth 100000 in
theorem spec_l1Cur_anyExpr.calls (k : Nat) (g : Nat) (s0_0 : List Int) (s0_1 : Int) (s0_2 : Int) (a1 : Int) (r1 : List (S47)) (r2 : Int) (r3 : Int) (w0 w : World) (hI : IsS59 w0 w g s0_0 s0_1 s0_2) (hB : Below w0.heap.size w0 w) (h : spec_l1Cur_anyExpr.f k s0_0 s0_1 s0_2 a1 = some (r1, r2, r3)) :
  Calls Try.prog 54 #[.pointer (some ⟨g, 0, none⟩), .int .i64 a1] w fun e w' => ∃ v0_ : Value, e = .returned (v0_) ∧ Kd.R k47 47 w' w.heap.size (fun _ => True) v0_ r1 ∧ IsS59 w0 w' g s0_0 r2 r3 ∧ Below w0.heap.size w0 w' ∧ KeepBut w w' g none := by
 have hu47 := Try.underlying47
 have HI0 := zK hI
 have HK := zK (KeepBut.refl w g none)
 have HL := zK hB.size
 clear hI
 have HW0 := zK hB.size
 have HB := zK hB
 clear hB
 have H : ((spec_l1Cur_expr.f s0_0 s0_1 s0_2 a1).bind fun bt296 => ((spec_l1Cur_pick.f s0_0 bt296.2.1 bt296.2.2 16).bind fun bt301 => (if bt301.1 = 0 then ((spec_l1Cur_pick.f s0_0 bt301.2.1 bt301.2.2 (bt296.1.length : Int)).bind fun bt304 => ((spec_l1Cur_pick.f s0_0 bt304.2.1 bt304.2.2 (wrap64 ((bt296.1.length : Int) + 2))).bind fun bt307 => (if 0 ≤ bt304.1 then (if bt304.1 < (bt296.1.length : Int) then (some ((bt296.1.set (bt304.1 : Int).toNat (⟨(rd_T47 bt296.1 bt304.1).f0, wrap64 (bt307.1 - 1), (rd_T47 bt296.1 bt304.1).f2, (rd_T47 bt296.1 bt304.1).f3⟩ : S47)), bt307.2.1, bt307.2.2)) else (none)) else (none)))) else (if bt301.1 = 1 then ((spec_l1Cur_pick.f s0_0 bt301.2.1 bt301.2.2 (bt296.1.length : Int)).bind fun bt311 => ((spec_l1Cur_of.f s0_0 bt311.2.1 bt311.2.2 (([(⟨#[]⟩ : ByteArray), (⟨#[105, 110]⟩ : ByteArray), (⟨#[99, 111, 110, 115, 116]⟩ : ByteArray), (⟨#[97, 110, 100]⟩ : ByteArray), (⟨#[110, 97, 110, 100]⟩ : ByteArray), (⟨#[110, 111, 116]⟩ : ByteArray)] : List ByteArray))).bind fun bt317 => (if 0 ≤ bt311.1 then (if bt311.1 < (bt296.1.length : Int) then (some ((bt296.1.set (bt311.1 : Int).toNat (⟨bt317.1, (rd_T47 bt296.1 bt311.1).f1, (rd_T47 bt296.1 bt311.1).f2, (rd_T47 bt296.1 bt311.1).f3⟩ : S47)), bt317.2.1, bt317.2.2)) else (none)) else (none)))) else (if bt301.1 = 2 then ((spec_l1Cur_pick.f s0_0 bt301.2.1 bt301.2.2 (bt296.1.length : Int)).bind fun bt321 => ((spec_l1Cur_among.f s0_0 bt321.2.1 bt321.2.2 (([(-1), 0, 1, 2, 63, 64] : List Int))).bind fun bt327 => (if 0 ≤ bt321.1 then (if bt321.1 < (bt296.1.length : Int) then (some ((bt296.1.set (bt321.1 : Int).toNat (⟨(rd_T47 bt296.1 bt321.1).f0, (rd_T47 bt296.1 bt321.1).f1, (rd_T47 bt296.1 bt321.1).f2, bt327.1⟩ : S47)), bt327.2.1, bt327.2.2)) else (none)) else (none)))) else (if bt301.1 = 3 then (if bt296.1.length < 3518437208883 then (some ((bt296.1 ++ [(⟨(⟨#[105, 110]⟩ : ByteArray), 0, 0, 0⟩ : S47)]), bt301.2.1, bt301.2.2)) else (none)) else (if bt301.1 = 4 then (spec_l1Cur_anyExpr.l0 k (([(⟨(⟨#[105, 110]⟩ : ByteArray), 0, 0, 0⟩ : S47)] : List (S47))) s0_0 bt301.2.1 bt301.2.2) else (if bt301.1 = 5 then (some (([] : List (S47)), bt301.2.1, bt301.2.2)) else (some (bt296.1, bt301.2.1, bt301.2.2)))))))))) = some (r1, r2, r3) := h
 clear h
 replace H := Option.bind_eq_some_iff.mp H
 obtain ⟨⟨t296, t299, t300⟩, A30, H⟩ := H
 replace H : ((spec_l1Cur_pick.f s0_0 t299 t300 16).bind fun bt301 => (if bt301.1 = 0 then ((spec_l1Cur_pick.f s0_0 bt301.2.1 bt301.2.2 (t296.length : Int)).bind fun bt304 => ((spec_l1Cur_pick.f s0_0 bt304.2.1 bt304.2.2 (wrap64 ((t296.length : Int) + 2))).bind fun bt307 => (if 0 ≤ bt304.1 then (if bt304.1 < (t296.length : Int) then (some ((t296.set (bt304.1 : Int).toNat (⟨(rd_T47 t296 bt304.1).f0, wrap64 (bt307.1 - 1), (rd_T47 t296 bt304.1).f2, (rd_T47 t296 bt304.1).f3⟩ : S47)), bt307.2.1, bt307.2.2)) else (none)) else (none)))) else (if bt301.1 = 1 then ((spec_l1Cur_pick.f s0_0 bt301.2.1 bt301.2.2 (t296.length : Int)).bind fun bt311 => ((spec_l1Cur_of.f s0_0 bt311.2.1 bt311.2.2 (([(⟨#[]⟩ : ByteArray), (⟨#[105, 110]⟩ : ByteArray), (⟨#[99, 111, 110, 115, 116]⟩ : ByteArray), (⟨#[97, 110, 100]⟩ : ByteArray), (⟨#[110, 97, 110, 100]⟩ : ByteArray), (⟨#[110, 111, 116]⟩ : ByteArray)] : List ByteArray))).bind fun bt317 => (if 0 ≤ bt311.1 then (if bt311.1 < (t296.length : Int) then (some ((t296.set (bt311.1 : Int).toNat (⟨bt317.1, (rd_T47 t296 bt311.1).f1, (rd_T47 t296 bt311.1).f2, (rd_T47 t296 bt311.1).f3⟩ : S47)), bt317.2.1, bt317.2.2)) else (none)) else (none)))) else (if bt301.1 = 2 then ((spec_l1Cur_pick.f s0_0 bt301.2.1 bt301.2.2 (t296.length : Int)).bind fun bt321 => ((spec_l1Cur_among.f s0_0 bt321.2.1 bt321.2.2 (([(-1), 0, 1, 2, 63, 64] : List Int))).bind fun bt327 => (if 0 ≤ bt321.1 then (if bt321.1 < (t296.length : Int) then (some ((t296.set (bt321.1 : Int).toNat (⟨(rd_T47 t296 bt321.1).f0, (rd_T47 t296 bt321.1).f1, (rd_T47 t296 bt321.1).f2, bt327.1⟩ : S47)), bt327.2.1, bt327.2.2)) else (none)) else (none)))) else (if bt301.1 = 3 then (if t296.length < 3518437208883 then (some ((t296 ++ [(⟨(⟨#[105, 110]⟩ : ByteArray), 0, 0, 0⟩ : S47)]), bt301.2.1, bt301.2.2)) else (none)) else (if bt301.1 = 4 then (spec_l1Cur_anyExpr.l0 k (([(⟨(⟨#[105, 110]⟩ : ByteArray), 0, 0, 0⟩ : S47)] : List (S47))) s0_0 bt301.2.1 bt301.2.2) else (if bt301.1 = 5 then (some (([] : List (S47)), bt301.2.1, bt301.2.2)) else (some (t296, bt301.2.1, bt301.2.2))))))))) = some (r1, r2, r3) := H
 have A3 := zK A30
 clear A30
 replace H := Option.bind_eq_some_iff.mp H
 obtain ⟨⟨t301, t302, t303⟩, A40, H⟩ := H
 replace H : (if t301 = 0 then ((spec_l1Cur_pick.f s0_0 t302 t303 (t296.length : Int)).bind fun bt304 => ((spec_l1Cur_pick.f s0_0 bt304.2.1 bt304.2.2 (wrap64 ((t296.length : Int) + 2))).bind fun bt307 => (if 0 ≤ bt304.1 then (if bt304.1 < (t296.length : Int) then (some ((t296.set (bt304.1 : Int).toNat (⟨(rd_T47 t296 bt304.1).f0, wrap64 (bt307.1 - 1), (rd_T47 t296 bt304.1).f2, (rd_T47 t296 bt304.1).f3⟩ : S47)), bt307.2.1, bt307.2.2)) else (none)) else (none)))) else (if t301 = 1 then ((spec_l1Cur_pick.f s0_0 t302 t303 (t296.length : Int)).bind fun bt311 => ((spec_l1Cur_of.f s0_0 bt311.2.1 bt311.2.2 (([(⟨#[]⟩ : ByteArray), (⟨#[105, 110]⟩ : ByteArray), (⟨#[99, 111, 110, 115, 116]⟩ : ByteArray), (⟨#[97, 110, 100]⟩ : ByteArray), (⟨#[110, 97, 110, 100]⟩ : ByteArray), (⟨#[110, 111, 116]⟩ : ByteArray)] : List ByteArray))).bind fun bt317 => (if 0 ≤ bt311.1 then (if bt311.1 < (t296.length : Int) then (some ((t296.set (bt311.1 : Int).toNat (⟨bt317.1, (rd_T47 t296 bt311.1).f1, (rd_T47 t296 bt311.1).f2, (rd_T47 t296 bt311.1).f3⟩ : S47)), bt317.2.1, bt317.2.2)) else (none)) else (none)))) else (if t301 = 2 then ((spec_l1Cur_pick.f s0_0 t302 t303 (t296.length : Int)).bind fun bt321 => ((spec_l1Cur_among.f s0_0 bt321.2.1 bt321.2.2 (([(-1), 0, 1, 2, 63, 64] : List Int))).bind fun bt327 => (if 0 ≤ bt321.1 then (if bt321.1 < (t296.length : Int) then (some ((t296.set (bt321.1 : Int).toNat (⟨(rd_T47 t296 bt321.1).f0, (rd_T47 t296 bt321.1).f1, (rd_T47 t296 bt321.1).f2, bt327.1⟩ : S47)), bt327.2.1, bt327.2.2)) else (none)) else (none)))) else (if t301 = 3 then (if t296.length < 3518437208883 then (some ((t296 ++ [(⟨(⟨#[105, 110]⟩ : ByteArray), 0, 0, 0⟩ : S47)]), t302, t303)) else (none)) else (if t301 = 4 then (spec_l1Cur_anyExpr.l0 k (([(⟨(⟨#[105, 110]⟩ : ByteArray), 0, 0, 0⟩ : S47)] : List (S47))) s0_0 t302 t303) else (if t301 = 5 then (some (([] : List (S47)), t302, t303)) else (some (t296, t302, t303)))))))) = some (r1, r2, r3) := H
 have A4 := zK A40
 clear A40
 by_cases c5 : t301 = 0
 ·rw [if_pos c5] at H
  have c5b0 : (t301 == 0) = true := beq_iff_eq.mpr c5
  have c5b1 : (t301 != 0) = false := bne_eq_false_iff_eq.mpr c5
  clear c5
  replace H := Option.bind_eq_some_iff.mp H
  obtain ⟨⟨t304, t305, t306⟩, A60, H⟩ := H
  replace H : ((spec_l1Cur_pick.f s0_0 t305 t306 (wrap64 ((t296.length : Int) + 2))).bind fun bt307 => (if 0 ≤ t304 then (if t304 < (t296.length : Int) then (some ((t296.set (t304 : Int).toNat (⟨(rd_T47 t296 t304).f0, wrap64 (bt307.1 - 1), (rd_T47 t296 t304).f2, (rd_T47 t296 t304).f3⟩ : S47)), bt307.2.1, bt307.2.2)) else (none)) else (none))) = some (r1, r2, r3) := H
  have A6 := zK A60
  clear A60
  replace H := Option.bind_eq_some_iff.mp H
  obtain ⟨⟨t307, t308, t309⟩, A70, H⟩ := H
  replace H : (if 0 ≤ t304 then (if t304 < (t296.length : Int) then (some ((t296.set (t304 : Int).toNat (⟨(rd_T47 t296 t304).f0, wrap64 (t307 - 1), (rd_T47 t296 t304).f2, (rd_T47 t296 t304).f3⟩ : S47)), t308, t309)) else (none)) else (none)) = some (r1, r2, r3) := H
  have A7 := zK A70
  clear A70
  by_cases c8 : 0 ≤ t304
  ·rw [if_pos c8] at H
   have c8b0 : decide (0 ≤ t304) = true := decide_eq_true c8
   clear c8
   by_cases c9 : t304 < (t296.length : Int)
   ·rw [if_pos c9] at H
    have c9b0 : decide (t304 < (t296.length : Int)) = true := decide_eq_true c9
    clear c9
    obtain ⟨y310, hy310⟩ : ∃ y_ : List (S47), y_ = (t296.set (t304 : Int).toNat (⟨(rd_T47 t296 t304).f0, wrap64 (t307 - 1), (rd_T47 t296 t304).f2, (rd_T47 t296 t304).f3⟩ : S47)) := ⟨_, rfl⟩
    replace H : (some (y310, t308, t309)) = some (r1, r2, r3) := by have hy_ := hy310; exact xH
    have Ny310 := zK hy310
    clear hy310
    simp only [Option.some.injEq, Prod.mk.injEq] at H
    obtain ⟨rfl, rfl, rfl⟩ := H
    go_enter Try.func54, Try.ntmps54
    go_wp2_with (first | ((with_reducible refine gate_callee (f := 108) rfl ?_); refine goesL_ (some 9) rfl rfl Try.func108 yi rfl #[.pointer (some ⟨g, 0, none⟩), .int .i64 a1] rfl yb ?_; (with_reducible refine (spec_l1Cur_expr.calls g s0_0 s0_1 s0_2 a1 t296 t299 t300 w0 _ ?side1 ?side2 A3.out).mono ?_); (case side1 => exact xxk); (case side2 => exact xxl); rintro e w11 ⟨v297, rfl, ho0, hi, hb, hk⟩; refine ⟨_, rfl, ?_⟩; have n0_ := zK (Kd.R_lower ho0 (keep_size (w := w) (g := g) (row := none) yc)); have n1_ := zK (KeepBut.trans yc hk (.inl rfl)); have n2_ := zK (hb); have n3_ := zK (hi); clear HK; clear HB; clear HI0; have HO298 := n0_; have HK := n1_; have HB := n2_; have HI0 := n3_; clear n0_ n1_ n2_ n3_; (try clear hb); (try clear hb2); (try clear hk); (try clear hi); (try clear ho0)) | ((with_reducible refine gate_callee (f := 55) rfl ?_); refine goesL_ (some 11) rfl rfl Try.func55 yi rfl #[.pointer (some ⟨g, 0, none⟩), .int .i64 16] rfl yb ?_; (with_reducible refine (spec_l1Cur_pick.calls g s0_0 t299 t300 16 t301 t302 t303 w0 _ ?side1 ?side2 A4.out).mono ?_); (case side1 => exact xxk); (case side2 => exact xxl); rintro e w12 ⟨rfl, hi, hb, hk⟩; refine ⟨_, rfl, ?_⟩; have n0_ := zK (Kd.R_mono (Kd.R_keep (IsS59.apart (show IsS59 w0 _ g s0_0 t299 t300 from by repeat (first | (with_reducible first | exact HI0.out | apply IsS59.alloc | apply IsS59.drewN | apply IsS59.drew | apply IsS59.set_1 | apply IsS59.set_2) | exact HI0.out)) ym yp1) hk (fun _ h => h.2)) (fun _ h => h.1)); have n1_ := zK (KeepBut.trans yc hk (.inl rfl)); have n2_ := zK (hb); have n3_ := zK (hi); clear HO298; clear HK; clear HB; clear HI0; have HO298 := n0_; have HK := n1_; have HB := n2_; have HI0 := n3_; clear n0_ n1_ n2_ n3_; (try clear hb); (try clear hb2); (try clear hk); (try clear hi); obtain ⟨Ao13, co13, eo13⟩ := Kd.R_slice HO298.out; subst eo13) | ((with_reducible refine gate_callee (f := 55) rfl ?_); refine goesL_ (some 17) rfl rfl Try.func55 yi rfl #[.pointer (some ⟨g, 0, none⟩), .int .i64 (t296.length : Int)] rfl yb ?_; (with_reducible refine (spec_l1Cur_pick.calls g s0_0 t302 t303 (t296.length : Int) t304 t305 t306 w0 _ ?side1 ?side2 A6.out).mono ?_); (case side1 => exact xxk); (case side2 => exact xxl); rintro e w14 ⟨rfl, hi, hb, hk⟩; refine ⟨_, rfl, ?_⟩; have n0_ := zK (Kd.R_mono (Kd.R_keep (IsS59.apart (show IsS59 w0 _ g s0_0 t302 t303 from by repeat (first | (with_reducible first | exact HI0.out | apply IsS59.alloc | apply IsS59.drewN | apply IsS59.drew | apply IsS59.set_1 | apply IsS59.set_2) | exact HI0.out)) ym yp1) hk (fun _ h => h.2)) (fun _ h => h.1)); have n1_ := zK (KeepBut.trans yc hk (.inl rfl)); have n2_ := zK (hb); have n3_ := zK (hi); clear HO298; clear HK; clear HB; clear HI0; have HO298 := n0_; have HK := n1_; have HB := n2_; have HI0 := n3_; clear n0_ n1_ n2_ n3_; (try clear hb); (try clear hb2); (try clear hk); (try clear hi)) | ((with_reducible refine gate_callee (f := 55) rfl ?_); refine goesL_ (some 24) rfl rfl Try.func55 yi rfl #[.pointer (some ⟨g, 0, none⟩), .int .i64 (wrap64 ((t296.length : Int) + 2))] rfl yb ?_; (with_reducible refine (spec_l1Cur_pick.calls g s0_0 t305 t306 (wrap64 ((t296.length : Int) + 2)) t307 t308 t309 w0 _ ?side1 ?side2 A7.out).mono ?_); (case side1 => exact xxk); (case side2 => exact xxl); rintro e w15 ⟨rfl, hi, hb, hk⟩; refine ⟨_, rfl, ?_⟩; have n0_ := zK (Kd.R_mono (Kd.R_keep (IsS59.apart (show IsS59 w0 _ g s0_0 t305 t306 from by repeat (first | (with_reducible first | exact HI0.out | apply IsS59.alloc | apply IsS59.drewN | apply IsS59.drew | apply IsS59.set_1 | apply IsS59.set_2) | exact HI0.out)) ym yp1) hk (fun _ h => h.2)) (fun _ h => h.1)); have n1_ := zK (KeepBut.trans yc hk (.inl rfl)); have n2_ := zK (hb); have n3_ := zK (hi); clear HO298; clear HK; clear HB; clear HI0; have HO298 := n0_; have HK := n1_; have HB := n2_; have HI0 := n3_; clear n0_ n1_ n2_ n3_; (try clear hb); (try clear hb2); (try clear hk); (try clear hi); have p10 : 0 ≤ (t304 : Int) := zo; have q10 : (t304 : Int) < ((t296.length : Int) : Int) := zo; obtain ⟨go10, co10, eo10, gb10, gl10, cl10, HG10⟩ := Kd.R_form HO298.out (by omega); (first | cases eo10 | (injection eo10 with ea_ en_ ec_; (first | subst ea_ | (injection ea_ with ea_; subst ea_)); subst ec_; clear en_)); have GB10 := zK gb10; have GG10 := zK HG10; clear gb10 gl10 HG10; obtain ⟨ce10, hcl10, hM10, hcc10, hfr10⟩ := Kd.R_elem HO298.out z47 (t304 : Int) p10 q10; obtain rfl := k47_openM hM10; have hx10_0 : w15.cell? ⟨go10, (t304 : Int).toNat * 4, none⟩ = some (.string ((rd_T47 t296 t304).f0)) := hcc10 0 _ rfl; have hx10_1 : w15.cell? ⟨go10, (t304 : Int).toNat * 4 + 1, none⟩ = some (.int .i64 ((rd_T47 t296 t304).f1)) := hcc10 1 _ rfl; have hx10_2 : w15.cell? ⟨go10, (t304 : Int).toNat * 4 + 2, none⟩ = some (.int .i64 ((rd_T47 t296 t304).f2)) := hcc10 2 _ rfl; have hx10_3 : w15.cell? ⟨go10, (t304 : Int).toNat * 4 + 3, none⟩ = some (.int .i64 ((rd_T47 t296 t304).f3)) := hcc10 3 _ rfl; have hf10_0 : w15.frozen? ⟨go10, (t304 : Int).toNat * 4, none⟩ = false := hfr10 0; have hf10_1 : w15.frozen? ⟨go10, (t304 : Int).toNat * 4 + 1, none⟩ = false := hfr10 1; have hf10_2 : w15.frozen? ⟨go10, (t304 : Int).toNat * 4 + 2, none⟩ = false := hfr10 2; have hf10_3 : w15.frozen? ⟨go10, (t304 : Int).toNat * 4 + 3, none⟩ = false := hfr10 3; clear hcl10 hcc10 hfr10 hM10; replace p10 := eq_true p10; replace q10 := eq_true q10; have HX16 := zK (show Kd.R k47 47 w15 w.heap.size (fun _ => True) (.slice (some ⟨go10, 0, none⟩) t296.length co13) t296 from ym); obtain ⟨ce16, hcl16, hM16, hcc16, hfr16⟩ := Kd.R_elem HX16.out z47 (t304 : Int) (zo) (by have h_ : (t304 : Int) < ((t296.length : Int) : Int) := zo; first | exact h_ | (have e_ := (Kd.R_reads' HO298.out).1; omega) | simpa using h_); obtain rfl := k47_openM hM16; have HP16 := Kd.R_seg HX16.out (t304 : Int) (zo) (by have h_ : (t304 : Int) < ((t296.length : Int) : Int) := zo; first | exact h_ | (have e_ := (Kd.R_reads' HO298.out).1; omega) | simpa using h_) (seg := [.int .i64 (wrap64 (t307 - 1))]) (j := 1) hcl16 hcc16 (show 2 ≤ 4 from by decide) (x' := (⟨(rd_T47 t296 t304).f0, wrap64 (t307 - 1), (rd_T47 t296 t304).f2, (rd_T47 t296 t304).f3⟩ : S47)) (k47_mkM _ _ _ (⟨(rd_T47 t296 t304).f0, wrap64 (t307 - 1), (rd_T47 t296 t304).f2, (rd_T47 t296 t304).f3⟩ : S47) ) (fun _ hk => hk); have hx16_1 := hcc16 1 _ rfl; (try simp only [show (k47).sz = 4 from rfl, Nat.mul_one, Nat.add_zero] at hx16_1); have hf16_1 := hfr16 1; (try simp only [show (k47).sz = 4 from rfl, Nat.mul_one, Nat.add_zero] at hf16_1); clear hcl16 hcc16 hfr16 hM16) | ((with_reducible refine gate_store (t := 3) (p := 27) rfl ?_); refine store_event (t := 3) (p := 27) (v := ?vo_w17) (w1 := (w15.setCell ⟨go10, (t304 : Int).toNat * 4 + 1, none⟩ (.int .i64 (wrap64 (t307 - 1))))) ?hg ?ho ?hn ?hr ?_; (case ho => rfl); (case hg => rfl); (case hn => rfl); (case hr => exact xxa); intro w17 hw; have hg : w15.grownBy w17 (some go10) := (by rw [hw]; exact HP16.2); have hp_ : Kd.R k47 47 w17 w.heap.size (fun _ => True) (.slice (some ⟨go10, 0, none⟩) t296.length co13) y310 := (by rw [hw, Ny310.out]; exact HP16.1); clear HP16; have n0_ := zK (IsS59.grown yf hg (IsS59.own_ne HI0.out HO298.out yp1)); have n1_ := zK (hp_); have n2_ := zK ((by rw [hw]; exact zD (HB.out) (Nat.le_trans HL.out GB10.out) : Below w0.heap.size w0 w17)); have n3_ := zK (KeepBut.trans yc (KeepBut.of_grown hg g) (Kd.R_base2 HO298.out)); clear HI0; clear HO298; clear HB; clear HK; have HI0 := n0_; have HO298 := n1_; have HB := n2_; have HK := n3_; clear n0_ n1_ n2_ n3_; clear hg hw hp_))
    go_ret
    exact ⟨_, yd, ym, yf, yh, yc⟩
   ·rw [if_neg c9] at H
    exact absurd H ye1
  ·rw [if_neg c8] at H
   exact absurd H ye1
 ·rw [if_neg c5] at H
  have c5b0 : (t301 == 0) = false := beq_eq_false_iff_ne.mpr c5
  have c5b1 : (t301 != 0) = true := bne_iff_ne.mpr c5
  by_cases c18 : t301 = 1
  ·rw [if_pos c18] at H
   have c18b0 : (t301 == 1) = true := beq_iff_eq.mpr c18
   have c18b1 : (t301 != 1) = false := bne_eq_false_iff_eq.mpr c18
   clear c18
   replace H := Option.bind_eq_some_iff.mp H
   obtain ⟨⟨t311, t312, t313⟩, A190, H⟩ := H
   replace H : ((spec_l1Cur_of.f s0_0 t312 t313 (([(⟨#[]⟩ : ByteArray), (⟨#[105, 110]⟩ : ByteArray), (⟨#[99, 111, 110, 115, 116]⟩ : ByteArray), (⟨#[97, 110, 100]⟩ : ByteArray), (⟨#[110, 97, 110, 100]⟩ : ByteArray), (⟨#[110, 111, 116]⟩ : ByteArray)] : List ByteArray))).bind fun bt317 => (if 0 ≤ t311 then (if t311 < (t296.length : Int) then (some ((t296.set (t311 : Int).toNat (⟨bt317.1, (rd_T47 t296 t311).f1, (rd_T47 t296 t311).f2, (rd_T47 t296 t311).f3⟩ : S47)), bt317.2.1, bt317.2.2)) else (none)) else (none))) = some (r1, r2, r3) := H
   have A19 := zK A190
   clear A190
   obtain ⟨y314, hy314⟩ : ∃ y_ : List ByteArray, y_ = (([(⟨#[]⟩ : ByteArray), (⟨#[105, 110]⟩ : ByteArray), (⟨#[99, 111, 110, 115, 116]⟩ : ByteArray), (⟨#[97, 110, 100]⟩ : ByteArray), (⟨#[110, 97, 110, 100]⟩ : ByteArray), (⟨#[110, 111, 116]⟩ : ByteArray)] : List ByteArray)) := ⟨_, rfl⟩
   replace H : ((spec_l1Cur_of.f s0_0 t312 t313 y314).bind fun bt317 => (if 0 ≤ t311 then (if t311 < (t296.length : Int) then (some ((t296.set (t311 : Int).toNat (⟨bt317.1, (rd_T47 t296 t311).f1, (rd_T47 t296 t311).f2, (rd_T47 t296 t311).f3⟩ : S47)), bt317.2.1, bt317.2.2)) else (none)) else (none))) = some (r1, r2, r3) := by have hy_ := hy314; exact xH
   have Ny314 := zK hy314
   clear hy314
   replace H := Option.bind_eq_some_iff.mp H
   obtain ⟨⟨t317, t318, t319⟩, A200, H⟩ := H
   replace H : (if 0 ≤ t311 then (if t311 < (t296.length : Int) then (some ((t296.set (t311 : Int).toNat (⟨t317, (rd_T47 t296 t311).f1, (rd_T47 t296 t311).f2, (rd_T47 t296 t311).f3⟩ : S47)), t318, t319)) else (none)) else (none)) = some (r1, r2, r3) := H
   have A20 := zK A200
   clear A200
   by_cases c21 : 0 ≤ t311
   ·rw [if_pos c21] at H
    have c21b0 : decide (0 ≤ t311) = true := decide_eq_true c21
    clear c21
    by_cases c22 : t311 < (t296.length : Int)
    ·rw [if_pos c22] at H
     have c22b0 : decide (t311 < (t296.length : Int)) = true := decide_eq_true c22
     clear c22
     obtain ⟨y320, hy320⟩ : ∃ y_ : List (S47), y_ = (t296.set (t311 : Int).toNat (⟨t317, (rd_T47 t296 t311).f1, (rd_T47 t296 t311).f2, (rd_T47 t296 t311).f3⟩ : S47)) := ⟨_, rfl⟩
     replace H : (some (y320, t318, t319)) = some (r1, r2, r3) := by have hy_ := hy320; exact xH
     have Ny320 := zK hy320
     clear hy320
     simp only [Option.some.injEq, Prod.mk.injEq] at H
     obtain ⟨rfl, rfl, rfl⟩ := H
     go_enter Try.func54, Try.ntmps54
     go_wp2_with (first | ((with_reducible refine gate_callee (f := 108) rfl ?_); refine goesL_ (some 9) rfl rfl Try.func108 yi rfl #[.pointer (some ⟨g, 0, none⟩), .int .i64 a1] rfl yb ?_; (with_reducible refine (spec_l1Cur_expr.calls g s0_0 s0_1 s0_2 a1 t296 t299 t300 w0 _ ?side1 ?side2 A3.out).mono ?_); (case side1 => exact xxk); (case side2 => exact xxl); rintro e w24 ⟨v297, rfl, ho0, hi, hb, hk⟩; refine ⟨_, rfl, ?_⟩; have n0_ := zK (Kd.R_lower ho0 (keep_size (w := w) (g := g) (row := none) yc)); have n1_ := zK (KeepBut.trans yc hk (.inl rfl)); have n2_ := zK (hb); have n3_ := zK (hi); clear HK; clear HB; clear HI0; have HO298 := n0_; have HK := n1_; have HB := n2_; have HI0 := n3_; clear n0_ n1_ n2_ n3_; (try clear hb); (try clear hb2); (try clear hk); (try clear hi); (try clear ho0)) | ((with_reducible refine gate_callee (f := 55) rfl ?_); refine goesL_ (some 11) rfl rfl Try.func55 yi rfl #[.pointer (some ⟨g, 0, none⟩), .int .i64 16] rfl yb ?_; (with_reducible refine (spec_l1Cur_pick.calls g s0_0 t299 t300 16 t301 t302 t303 w0 _ ?side1 ?side2 A4.out).mono ?_); (case side1 => exact xxk); (case side2 => exact xxl); rintro e w25 ⟨rfl, hi, hb, hk⟩; refine ⟨_, rfl, ?_⟩; have n0_ := zK (Kd.R_mono (Kd.R_keep (IsS59.apart (show IsS59 w0 _ g s0_0 t299 t300 from by repeat (first | (with_reducible first | exact HI0.out | apply IsS59.alloc | apply IsS59.drewN | apply IsS59.drew | apply IsS59.set_1 | apply IsS59.set_2) | exact HI0.out)) ym yp1) hk (fun _ h => h.2)) (fun _ h => h.1)); have n1_ := zK (KeepBut.trans yc hk (.inl rfl)); have n2_ := zK (hb); have n3_ := zK (hi); clear HO298; clear HK; clear HB; clear HI0; have HO298 := n0_; have HK := n1_; have HB := n2_; have HI0 := n3_; clear n0_ n1_ n2_ n3_; (try clear hb); (try clear hb2); (try clear hk); (try clear hi); obtain ⟨Ao26, co26, eo26⟩ := Kd.R_slice HO298.out; subst eo26) | ((with_reducible refine gate_callee (f := 55) rfl ?_); refine goesL_ (some 34) rfl rfl Try.func55 yi rfl #[.pointer (some ⟨g, 0, none⟩), .int .i64 (t296.length : Int)] rfl yb ?_; (with_reducible refine (spec_l1Cur_pick.calls g s0_0 t302 t303 (t296.length : Int) t311 t312 t313 w0 _ ?side1 ?side2 A19.out).mono ?_); (case side1 => exact xxk); (case side2 => exact xxl); rintro e w27 ⟨rfl, hi, hb, hk⟩; refine ⟨_, rfl, ?_⟩; have n0_ := zK (Kd.R_mono (Kd.R_keep (IsS59.apart (show IsS59 w0 _ g s0_0 t302 t303 from by repeat (first | (with_reducible first | exact HI0.out | apply IsS59.alloc | apply IsS59.drewN | apply IsS59.drew | apply IsS59.set_1 | apply IsS59.set_2) | exact HI0.out)) ym yp1) hk (fun _ h => h.2)) (fun _ h => h.1)); have n1_ := zK (KeepBut.trans yc hk (.inl rfl)); have n2_ := zK (hb); have n3_ := zK (hi); clear HO298; clear HK; clear HB; clear HI0; have HO298 := n0_; have HK := n1_; have HB := n2_; have HI0 := n3_; clear n0_ n1_ n2_ n3_; (try clear hb); (try clear hb2); (try clear hk); (try clear hi)) | ((with_reducible refine gate_dst (N := 36) rfl ?_); refine Kd.R_lit Kd.string _ 9 ?hg (N := 36) ?hd (xs := ([(⟨#[]⟩ : ByteArray), (⟨#[105, 110]⟩ : ByteArray), (⟨#[99, 111, 110, 115, 116]⟩ : ByteArray), (⟨#[97, 110, 100]⟩ : ByteArray), (⟨#[110, 97, 110, 100]⟩ : ByteArray), (⟨#[110, 111, 116]⟩ : ByteArray)] : List ByteArray)) (inner := [.string (⟨#[]⟩ : ByteArray), .string (⟨#[105, 110]⟩ : ByteArray), .string (⟨#[99, 111, 110, 115, 116]⟩ : ByteArray), .string (⟨#[97, 110, 100]⟩ : ByteArray), .string (⟨#[110, 97, 110, 100]⟩ : ByteArray), .string (⟨#[110, 111, 116]⟩ : ByteArray)]) (ok := fun _ => True) (okp := fun _ => True) ?hr ?hp (fun _ hk => hk) trivial (Below.refl _ _) (Nat.le_refl _) ye1 ?_; (case hd | hg => rfl); (case hr => exact xxa); (case hp => exact (Reps.one (show Kd.M Kd.string _ _ _ (⟨#[]⟩ : ByteArray) [.string (⟨#[]⟩ : ByteArray)] from rfl) (Reps.one (show Kd.M Kd.string _ _ _ (⟨#[105, 110]⟩ : ByteArray) [.string (⟨#[105, 110]⟩ : ByteArray)] from rfl) (Reps.one (show Kd.M Kd.string _ _ _ (⟨#[99, 111, 110, 115, 116]⟩ : ByteArray) [.string (⟨#[99, 111, 110, 115, 116]⟩ : ByteArray)] from rfl) (Reps.one (show Kd.M Kd.string _ _ _ (⟨#[97, 110, 100]⟩ : ByteArray) [.string (⟨#[97, 110, 100]⟩ : ByteArray)] from rfl) (Reps.one (show Kd.M Kd.string _ _ _ (⟨#[110, 97, 110, 100]⟩ : ByteArray) [.string (⟨#[110, 97, 110, 100]⟩ : ByteArray)] from rfl) (Reps.one (show Kd.M Kd.string _ _ _ (⟨#[110, 111, 116]⟩ : ByteArray) [.string (⟨#[110, 111, 116]⟩ : ByteArray)] from rfl) (Reps.none _ _)))))))); intro v315 w28 ho29 hb hg_ hnew_; clear hg_ hnew_; (first | rw [← Ny314.out] at ho29 | (simp only [Int.reduceToNat] at ho29; rw [← Ny314.out] at ho29)); have n0_ := zK (Kd.R_below ym hb); have n1_ := zK (Kd.R_lower ho29 (keep_size (w := w) (g := g) (row := none) yc)); have n2_ := zK (IsS59.below yf hb); have n3_ := zK (KeepBut.trans yc (KeepBut.of_below hb g none) (.inl rfl)); have n4_ := zK (zL yh hb); clear HO298; clear HI0; clear HK; clear HB; have HO298 := n0_; have HO316 := n1_; have HI0 := n2_; have HK := n3_; have HB := n4_; clear n0_ n1_ n2_ n3_ n4_; clear hb ho29; obtain ⟨Ao30, co30, eo30⟩ := Kd.R_slice HO316.out; subst eo30) | ((with_reducible refine gate_callee (f := 78) rfl ?_); refine goesL_ (some 37) rfl rfl Try.func78 yi rfl #[.pointer (some ⟨g, 0, none⟩), .slice Ao30 y314.length co30] rfl yb ?_; (with_reducible refine (spec_l1Cur_of.calls g s0_0 t312 t313 _ _ y314 t317 t318 t319 w0 _ ?side1 ?side2 ?side3 ?side4 ?side5 A20.out).mono ?_); (case side1 => exact xxk); (case side2 => exact xxl); (case side3 => repeat (first | exact (Kd.R_reads' HO316.out).2.2 | (with_reducible refine Kd.C_alloc ?_ _) | (with_reducible refine Kd.C_drewN ?_ _) | (with_reducible refine Kd.C_drew ?_))); (case side4 => exact (Kd.R_reads' HO316.out).2.1); (case side5 => exact far_slice (IsS59.own_ne HI0.out HO316.out yp1)); rintro e w31 ⟨rfl, hi, hb, hk⟩; refine ⟨_, rfl, ?_⟩; have n0_ := zK (Kd.R_mono (Kd.R_keep (IsS59.apart (show IsS59 w0 _ g s0_0 t312 t313 from by repeat (first | (with_reducible first | exact HI0.out | apply IsS59.alloc | apply IsS59.drewN | apply IsS59.drew | apply IsS59.set_1 | apply IsS59.set_2) | exact HI0.out)) ym yp1) hk (fun _ h => h.2)) (fun _ h => h.1)); have n1_ := zK (Kd.R_mono (Kd.R_keep (IsS59.apart (show IsS59 w0 _ g s0_0 t312 t313 from by repeat (first | (with_reducible first | exact HI0.out | apply IsS59.alloc | apply IsS59.drewN | apply IsS59.drew | apply IsS59.set_1 | apply IsS59.set_2) | exact HI0.out)) (yR HO316.out) yp1) hk (fun _ h => h.2)) (fun _ h => h.1)); have n2_ := zK (KeepBut.trans yc hk (.inl rfl)); have n3_ := zK (hb); have n4_ := zK (hi); clear HO298; clear HO316; clear HK; clear HB; clear HI0; have HO298 := n0_; have HO316 := n1_; have HK := n2_; have HB := n3_; have HI0 := n4_; clear n0_ n1_ n2_ n3_ n4_; (try clear hb); (try clear hb2); (try clear hk); (try clear hi); have p23 : 0 ≤ (t311 : Int) := zo; have q23 : (t311 : Int) < ((t296.length : Int) : Int) := zo; obtain ⟨go23, co23, eo23, gb23, gl23, cl23, HG23⟩ := Kd.R_form HO298.out (by omega); (first | cases eo23 | (injection eo23 with ea_ en_ ec_; (first | subst ea_ | (injection ea_ with ea_; subst ea_)); subst ec_; clear en_)); have GB23 := zK gb23; have GG23 := zK HG23; clear gb23 gl23 HG23; obtain ⟨ce23, hcl23, hM23, hcc23, hfr23⟩ := Kd.R_elem HO298.out z47 (t311 : Int) p23 q23; obtain rfl := k47_openM hM23; have hx23_0 : w31.cell? ⟨go23, (t311 : Int).toNat * 4, none⟩ = some (.string ((rd_T47 t296 t311).f0)) := hcc23 0 _ rfl; have hx23_1 : w31.cell? ⟨go23, (t311 : Int).toNat * 4 + 1, none⟩ = some (.int .i64 ((rd_T47 t296 t311).f1)) := hcc23 1 _ rfl; have hx23_2 : w31.cell? ⟨go23, (t311 : Int).toNat * 4 + 2, none⟩ = some (.int .i64 ((rd_T47 t296 t311).f2)) := hcc23 2 _ rfl; have hx23_3 : w31.cell? ⟨go23, (t311 : Int).toNat * 4 + 3, none⟩ = some (.int .i64 ((rd_T47 t296 t311).f3)) := hcc23 3 _ rfl; have hf23_0 : w31.frozen? ⟨go23, (t311 : Int).toNat * 4, none⟩ = false := hfr23 0; have hf23_1 : w31.frozen? ⟨go23, (t311 : Int).toNat * 4 + 1, none⟩ = false := hfr23 1; have hf23_2 : w31.frozen? ⟨go23, (t311 : Int).toNat * 4 + 2, none⟩ = false := hfr23 2; have hf23_3 : w31.frozen? ⟨go23, (t311 : Int).toNat * 4 + 3, none⟩ = false := hfr23 3; clear hcl23 hcc23 hfr23 hM23; replace p23 := eq_true p23; replace q23 := eq_true q23; have HX32 := zK (show Kd.R k47 47 w31 w.heap.size (fun _ => True) (.slice (some ⟨go23, 0, none⟩) t296.length co26) t296 from ym); obtain ⟨ce32, hcl32, hM32, hcc32, hfr32⟩ := Kd.R_elem HX32.out z47 (t311 : Int) (zo) (by have h_ : (t311 : Int) < ((t296.length : Int) : Int) := zo; first | exact h_ | (have e_ := (Kd.R_reads' HO298.out).1; omega) | simpa using h_); obtain rfl := k47_openM hM32; have HP32 := Kd.R_seg HX32.out (t311 : Int) (zo) (by have h_ : (t311 : Int) < ((t296.length : Int) : Int) := zo; first | exact h_ | (have e_ := (Kd.R_reads' HO298.out).1; omega) | simpa using h_) (seg := [.string t317]) (j := 0) hcl32 hcc32 (show 1 ≤ 4 from by decide) (x' := (⟨t317, (rd_T47 t296 t311).f1, (rd_T47 t296 t311).f2, (rd_T47 t296 t311).f3⟩ : S47)) (k47_mkM _ _ _ (⟨t317, (rd_T47 t296 t311).f1, (rd_T47 t296 t311).f2, (rd_T47 t296 t311).f3⟩ : S47) ) (fun _ hk => hk); have hx32_0 := hcc32 0 _ rfl; (try simp only [show (k47).sz = 4 from rfl, Nat.mul_one, Nat.add_zero] at hx32_0); have hf32_0 := hfr32 0; (try simp only [show (k47).sz = 4 from rfl, Nat.mul_one, Nat.add_zero] at hf32_0); clear hcl32 hcc32 hfr32 hM32) | ((with_reducible refine gate_store (t := 9) (p := 39) rfl ?_); refine store_event (t := 9) (p := 39) (v := ?vo_w33) (w1 := (w31.setCell ⟨go23, (t311 : Int).toNat * 4, none⟩ (.string t317))) ?hg ?ho ?hn ?hr ?_; (case ho => rfl); (case hg => rfl); (case hn => rfl); (case hr => exact xxa); intro w33 hw; have hg : w31.grownBy w33 (some go23) := (by rw [hw]; exact HP32.2); have hp_ : Kd.R k47 47 w33 w.heap.size (fun _ => True) (.slice (some ⟨go23, 0, none⟩) t296.length co26) y320 := (by rw [hw, Ny320.out]; exact HP32.1); clear HP32; have n0_ := zK (IsS59.grown yf hg (IsS59.own_ne HI0.out HO298.out yp1)); have n1_ := zK (hp_); have n2_ := zK (Kd.R_over' (v := (.slice (some ⟨go23, 0, none⟩) t296.length co26)) (yR HO316.out) (Kd.R_typed HO298.out) yp1 hg); have n3_ := zK ((by rw [hw]; exact zD (HB.out) (Nat.le_trans HL.out GB23.out) : Below w0.heap.size w0 w33)); have n4_ := zK (KeepBut.trans yc (KeepBut.of_grown hg g) (Kd.R_base2 HO298.out)); clear HI0; clear HO298; clear HO316; clear HB; clear HK; have HI0 := n0_; have HO298 := n1_; have HO316 := n2_; have HB := n3_; have HK := n4_; clear n0_ n1_ n2_ n3_ n4_; clear hg hw hp_))
     go_ret
     exact ⟨_, yd, ym, yf, yh, yc⟩
    ·rw [if_neg c22] at H
     exact absurd H ye1
   ·rw [if_neg c21] at H
    exact absurd H ye1
  ·rw [if_neg c18] at H
   have c18b0 : (t301 == 1) = false := beq_eq_false_iff_ne.mpr c18
   have c18b1 : (t301 != 1) = true := bne_iff_ne.mpr c18
   by_cases c34 : t301 = 2
   ·rw [if_pos c34] at H
    have c34b0 : (t301 == 2) = true := beq_iff_eq.mpr c34
    have c34b1 : (t301 != 2) = false := bne_eq_false_iff_eq.mpr c34
    clear c34
    replace H := Option.bind_eq_some_iff.mp H
    obtain ⟨⟨t321, t322, t323⟩, A350, H⟩ := H
    replace H : ((spec_l1Cur_among.f s0_0 t322 t323 (([(-1), 0, 1, 2, 63, 64] : List Int))).bind fun bt327 => (if 0 ≤ t321 then (if t321 < (t296.length : Int) then (some ((t296.set (t321 : Int).toNat (⟨(rd_T47 t296 t321).f0, (rd_T47 t296 t321).f1, (rd_T47 t296 t321).f2, bt327.1⟩ : S47)), bt327.2.1, bt327.2.2)) else (none)) else (none))) = some (r1, r2, r3) := H
    have A35 := zK A350
    clear A350
    obtain ⟨y324, hy324⟩ : ∃ y_ : List Int, y_ = (([(-1), 0, 1, 2, 63, 64] : List Int)) := ⟨_, rfl⟩
    replace H : ((spec_l1Cur_among.f s0_0 t322 t323 y324).bind fun bt327 => (if 0 ≤ t321 then (if t321 < (t296.length : Int) then (some ((t296.set (t321 : Int).toNat (⟨(rd_T47 t296 t321).f0, (rd_T47 t296 t321).f1, (rd_T47 t296 t321).f2, bt327.1⟩ : S47)), bt327.2.1, bt327.2.2)) else (none)) else (none))) = some (r1, r2, r3) := by have hy_ := hy324; exact xH
    have Ny324 := zK hy324
    clear hy324
    replace H := Option.bind_eq_some_iff.mp H
    obtain ⟨⟨t327, t328, t329⟩, A360, H⟩ := H
    replace H : (if 0 ≤ t321 then (if t321 < (t296.length : Int) then (some ((t296.set (t321 : Int).toNat (⟨(rd_T47 t296 t321).f0, (rd_T47 t296 t321).f1, (rd_T47 t296 t321).f2, t327⟩ : S47)), t328, t329)) else (none)) else (none)) = some (r1, r2, r3) := H
    have A36 := zK A360
    clear A360
    by_cases c37 : 0 ≤ t321
    ·rw [if_pos c37] at H
     have c37b0 : decide (0 ≤ t321) = true := decide_eq_true c37
     clear c37
     by_cases c38 : t321 < (t296.length : Int)
     ·rw [if_pos c38] at H
      have c38b0 : decide (t321 < (t296.length : Int)) = true := decide_eq_true c38
      clear c38
      obtain ⟨y330, hy330⟩ : ∃ y_ : List (S47), y_ = (t296.set (t321 : Int).toNat (⟨(rd_T47 t296 t321).f0, (rd_T47 t296 t321).f1, (rd_T47 t296 t321).f2, t327⟩ : S47)) := ⟨_, rfl⟩
      replace H : (some (y330, t328, t329)) = some (r1, r2, r3) := by have hy_ := hy330; exact xH
      have Ny330 := zK hy330
      clear hy330
      simp only [Option.some.injEq, Prod.mk.injEq] at H
      obtain ⟨rfl, rfl, rfl⟩ := H
      go_enter Try.func54, Try.ntmps54
      go_wp2_with (first | ((with_reducible refine gate_callee (f := 108) rfl ?_); refine goesL_ (some 9) rfl rfl Try.func108 yi rfl #[.pointer (some ⟨g, 0, none⟩), .int .i64 a1] rfl yb ?_; (with_reducible refine (spec_l1Cur_expr.calls g s0_0 s0_1 s0_2 a1 t296 t299 t300 w0 _ ?side1 ?side2 A3.out).mono ?_); (case side1 => exact xxk); (case side2 => exact xxl); rintro e w40 ⟨v297, rfl, ho0, hi, hb, hk⟩; refine ⟨_, rfl, ?_⟩; have n0_ := zK (Kd.R_lower ho0 (keep_size (w := w) (g := g) (row := none) yc)); have n1_ := zK (KeepBut.trans yc hk (.inl rfl)); have n2_ := zK (hb); have n3_ := zK (hi); clear HK; clear HB; clear HI0; have HO298 := n0_; have HK := n1_; have HB := n2_; have HI0 := n3_; clear n0_ n1_ n2_ n3_; (try clear hb); (try clear hb2); (try clear hk); (try clear hi); (try clear ho0)) | ((with_reducible refine gate_callee (f := 55) rfl ?_); refine goesL_ (some 11) rfl rfl Try.func55 yi rfl #[.pointer (some ⟨g, 0, none⟩), .int .i64 16] rfl yb ?_; (with_reducible refine (spec_l1Cur_pick.calls g s0_0 t299 t300 16 t301 t302 t303 w0 _ ?side1 ?side2 A4.out).mono ?_); (case side1 => exact xxk); (case side2 => exact xxl); rintro e w41 ⟨rfl, hi, hb, hk⟩; refine ⟨_, rfl, ?_⟩; have n0_ := zK (Kd.R_mono (Kd.R_keep (IsS59.apart (show IsS59 w0 _ g s0_0 t299 t300 from by repeat (first | (with_reducible first | exact HI0.out | apply IsS59.alloc | apply IsS59.drewN | apply IsS59.drew | apply IsS59.set_1 | apply IsS59.set_2) | exact HI0.out)) ym yp1) hk (fun _ h => h.2)) (fun _ h => h.1)); have n1_ := zK (KeepBut.trans yc hk (.inl rfl)); have n2_ := zK (hb); have n3_ := zK (hi); clear HO298; clear HK; clear HB; clear HI0; have HO298 := n0_; have HK := n1_; have HB := n2_; have HI0 := n3_; clear n0_ n1_ n2_ n3_; (try clear hb); (try clear hb2); (try clear hk); (try clear hi); obtain ⟨Ao42, co42, eo42⟩ := Kd.R_slice HO298.out; subst eo42) | ((with_reducible refine gate_callee (f := 55) rfl ?_); refine goesL_ (some 46) rfl rfl Try.func55 yi rfl #[.pointer (some ⟨g, 0, none⟩), .int .i64 (t296.length : Int)] rfl yb ?_; (with_reducible refine (spec_l1Cur_pick.calls g s0_0 t302 t303 (t296.length : Int) t321 t322 t323 w0 _ ?side1 ?side2 A35.out).mono ?_); (case side1 => exact xxk); (case side2 => exact xxl); rintro e w43 ⟨rfl, hi, hb, hk⟩; refine ⟨_, rfl, ?_⟩; have n0_ := zK (Kd.R_mono (Kd.R_keep (IsS59.apart (show IsS59 w0 _ g s0_0 t302 t303 from by repeat (first | (with_reducible first | exact HI0.out | apply IsS59.alloc | apply IsS59.drewN | apply IsS59.drew | apply IsS59.set_1 | apply IsS59.set_2) | exact HI0.out)) ym yp1) hk (fun _ h => h.2)) (fun _ h => h.1)); have n1_ := zK (KeepBut.trans yc hk (.inl rfl)); have n2_ := zK (hb); have n3_ := zK (hi); clear HO298; clear HK; clear HB; clear HI0; have HO298 := n0_; have HK := n1_; have HB := n2_; have HI0 := n3_; clear n0_ n1_ n2_ n3_; (try clear hb); (try clear hb2); (try clear hk); (try clear hi)) | ((with_reducible refine gate_dst (N := 48) rfl ?_); refine Kd.R_lit (Kd.int .i64) _ 3 ?hg (N := 48) ?hd (xs := ([(-1), 0, 1, 2, 63, 64] : List Int)) (inner := [.int .i64 (-1), .int .i64 0, .int .i64 1, .int .i64 2, .int .i64 63, .int .i64 64]) (ok := fun _ => True) (okp := fun _ => True) ?hr ?hp (fun _ hk => hk) trivial (Below.refl _ _) (Nat.le_refl _) ye1 ?_; (case hd | hg => rfl); (case hr => exact xxa); (case hp => exact (Reps.one (show Kd.M (Kd.int .i64) _ _ _ (-1) [.int .i64 (-1)] from rfl) (Reps.one (show Kd.M (Kd.int .i64) _ _ _ 0 [.int .i64 0] from rfl) (Reps.one (show Kd.M (Kd.int .i64) _ _ _ 1 [.int .i64 1] from rfl) (Reps.one (show Kd.M (Kd.int .i64) _ _ _ 2 [.int .i64 2] from rfl) (Reps.one (show Kd.M (Kd.int .i64) _ _ _ 63 [.int .i64 63] from rfl) (Reps.one (show Kd.M (Kd.int .i64) _ _ _ 64 [.int .i64 64] from rfl) (Reps.none _ _)))))))); intro v325 w44 ho45 hb hg_ hnew_; clear hg_ hnew_; (first | rw [← Ny324.out] at ho45 | (simp only [Int.reduceToNat] at ho45; rw [← Ny324.out] at ho45)); have n0_ := zK (Kd.R_below ym hb); have n1_ := zK (Kd.R_lower ho45 (keep_size (w := w) (g := g) (row := none) yc)); have n2_ := zK (IsS59.below yf hb); have n3_ := zK (KeepBut.trans yc (KeepBut.of_below hb g none) (.inl rfl)); have n4_ := zK (zL yh hb); clear HO298; clear HI0; clear HK; clear HB; have HO298 := n0_; have HO326 := n1_; have HI0 := n2_; have HK := n3_; have HB := n4_; clear n0_ n1_ n2_ n3_ n4_; clear hb ho45; obtain ⟨Ao46, co46, eo46⟩ := Kd.R_slice HO326.out; subst eo46) | ((with_reducible refine gate_callee (f := 88) rfl ?_); refine goesL_ (some 49) rfl rfl Try.func88 yi rfl #[.pointer (some ⟨g, 0, none⟩), .slice Ao46 y324.length co46] rfl yb ?_; (with_reducible refine (spec_l1Cur_among.calls g s0_0 t322 t323 _ _ y324 t327 t328 t329 w0 _ ?side1 ?side2 ?side3 ?side4 ?side5 A36.out).mono ?_); (case side1 => exact xxk); (case side2 => exact xxl); (case side3 => repeat (first | exact (Kd.R_reads' HO326.out).2.2 | (with_reducible refine Kd.C_alloc ?_ _) | (with_reducible refine Kd.C_drewN ?_ _) | (with_reducible refine Kd.C_drew ?_))); (case side4 => exact (Kd.R_reads' HO326.out).2.1); (case side5 => exact far_slice (IsS59.own_ne HI0.out HO326.out yp1)); rintro e w47 ⟨rfl, hi, hb, hk⟩; refine ⟨_, rfl, ?_⟩; have n0_ := zK (Kd.R_mono (Kd.R_keep (IsS59.apart (show IsS59 w0 _ g s0_0 t322 t323 from by repeat (first | (with_reducible first | exact HI0.out | apply IsS59.alloc | apply IsS59.drewN | apply IsS59.drew | apply IsS59.set_1 | apply IsS59.set_2) | exact HI0.out)) ym yp1) hk (fun _ h => h.2)) (fun _ h => h.1)); have n1_ := zK (Kd.R_mono (Kd.R_keep (IsS59.apart (show IsS59 w0 _ g s0_0 t322 t323 from by repeat (first | (with_reducible first | exact HI0.out | apply IsS59.alloc | apply IsS59.drewN | apply IsS59.drew | apply IsS59.set_1 | apply IsS59.set_2) | exact HI0.out)) (yR HO326.out) yp1) hk (fun _ h => h.2)) (fun _ h => h.1)); have n2_ := zK (KeepBut.trans yc hk (.inl rfl)); have n3_ := zK (hb); have n4_ := zK (hi); clear HO298; clear HO326; clear HK; clear HB; clear HI0; have HO298 := n0_; have HO326 := n1_; have HK := n2_; have HB := n3_; have HI0 := n4_; clear n0_ n1_ n2_ n3_ n4_; (try clear hb); (try clear hb2); (try clear hk); (try clear hi); have p39 : 0 ≤ (t321 : Int) := zo; have q39 : (t321 : Int) < ((t296.length : Int) : Int) := zo; obtain ⟨go39, co39, eo39, gb39, gl39, cl39, HG39⟩ := Kd.R_form HO298.out (by omega); (first | cases eo39 | (injection eo39 with ea_ en_ ec_; (first | subst ea_ | (injection ea_ with ea_; subst ea_)); subst ec_; clear en_)); have GB39 := zK gb39; have GG39 := zK HG39; clear gb39 gl39 HG39; obtain ⟨ce39, hcl39, hM39, hcc39, hfr39⟩ := Kd.R_elem HO298.out z47 (t321 : Int) p39 q39; obtain rfl := k47_openM hM39; have hx39_0 : w47.cell? ⟨go39, (t321 : Int).toNat * 4, none⟩ = some (.string ((rd_T47 t296 t321).f0)) := hcc39 0 _ rfl; have hx39_1 : w47.cell? ⟨go39, (t321 : Int).toNat * 4 + 1, none⟩ = some (.int .i64 ((rd_T47 t296 t321).f1)) := hcc39 1 _ rfl; have hx39_2 : w47.cell? ⟨go39, (t321 : Int).toNat * 4 + 2, none⟩ = some (.int .i64 ((rd_T47 t296 t321).f2)) := hcc39 2 _ rfl; have hx39_3 : w47.cell? ⟨go39, (t321 : Int).toNat * 4 + 3, none⟩ = some (.int .i64 ((rd_T47 t296 t321).f3)) := hcc39 3 _ rfl; have hf39_0 : w47.frozen? ⟨go39, (t321 : Int).toNat * 4, none⟩ = false := hfr39 0; have hf39_1 : w47.frozen? ⟨go39, (t321 : Int).toNat * 4 + 1, none⟩ = false := hfr39 1; have hf39_2 : w47.frozen? ⟨go39, (t321 : Int).toNat * 4 + 2, none⟩ = false := hfr39 2; have hf39_3 : w47.frozen? ⟨go39, (t321 : Int).toNat * 4 + 3, none⟩ = false := hfr39 3; clear hcl39 hcc39 hfr39 hM39; replace p39 := eq_true p39; replace q39 := eq_true q39; have HX48 := zK (show Kd.R k47 47 w47 w.heap.size (fun _ => True) (.slice (some ⟨go39, 0, none⟩) t296.length co42) t296 from ym); obtain ⟨ce48, hcl48, hM48, hcc48, hfr48⟩ := Kd.R_elem HX48.out z47 (t321 : Int) (zo) (by have h_ : (t321 : Int) < ((t296.length : Int) : Int) := zo; first | exact h_ | (have e_ := (Kd.R_reads' HO298.out).1; omega) | simpa using h_); obtain rfl := k47_openM hM48; have HP48 := Kd.R_seg HX48.out (t321 : Int) (zo) (by have h_ : (t321 : Int) < ((t296.length : Int) : Int) := zo; first | exact h_ | (have e_ := (Kd.R_reads' HO298.out).1; omega) | simpa using h_) (seg := [.int .i64 t327]) (j := 3) hcl48 hcc48 (show 4 ≤ 4 from by decide) (x' := (⟨(rd_T47 t296 t321).f0, (rd_T47 t296 t321).f1, (rd_T47 t296 t321).f2, t327⟩ : S47)) (k47_mkM _ _ _ (⟨(rd_T47 t296 t321).f0, (rd_T47 t296 t321).f1, (rd_T47 t296 t321).f2, t327⟩ : S47) ) (fun _ hk => hk); have hx48_3 := hcc48 3 _ rfl; (try simp only [show (k47).sz = 4 from rfl, Nat.mul_one, Nat.add_zero] at hx48_3); have hf48_3 := hfr48 3; (try simp only [show (k47).sz = 4 from rfl, Nat.mul_one, Nat.add_zero] at hf48_3); clear hcl48 hcc48 hfr48 hM48) | ((with_reducible refine gate_store (t := 3) (p := 51) rfl ?_); refine store_event (t := 3) (p := 51) (v := ?vo_w49) (w1 := (w47.setCell ⟨go39, (t321 : Int).toNat * 4 + 3, none⟩ (.int .i64 t327))) ?hg ?ho ?hn ?hr ?_; (case ho => rfl); (case hg => rfl); (case hn => rfl); (case hr => exact xxa); intro w49 hw; have hg : w47.grownBy w49 (some go39) := (by rw [hw]; exact HP48.2); have hp_ : Kd.R k47 47 w49 w.heap.size (fun _ => True) (.slice (some ⟨go39, 0, none⟩) t296.length co42) y330 := (by rw [hw, Ny330.out]; exact HP48.1); clear HP48; have n0_ := zK (IsS59.grown yf hg (IsS59.own_ne HI0.out HO298.out yp1)); have n1_ := zK (hp_); have n2_ := zK (Kd.R_over' (v := (.slice (some ⟨go39, 0, none⟩) t296.length co42)) (yR HO326.out) (Kd.R_typed HO298.out) yp1 hg); have n3_ := zK ((by rw [hw]; exact zD (HB.out) (Nat.le_trans HL.out GB39.out) : Below w0.heap.size w0 w49)); have n4_ := zK (KeepBut.trans yc (KeepBut.of_grown hg g) (Kd.R_base2 HO298.out)); clear HI0; clear HO298; clear HO326; clear HB; clear HK; have HI0 := n0_; have HO298 := n1_; have HO326 := n2_; have HB := n3_; have HK := n4_; clear n0_ n1_ n2_ n3_ n4_; clear hg hw hp_))
      go_ret
      exact ⟨_, yd, ym, yf, yh, yc⟩
     ·rw [if_neg c38] at H
      exact absurd H ye1
    ·rw [if_neg c37] at H
     exact absurd H ye1
   ·rw [if_neg c34] at H
    have c34b0 : (t301 == 2) = false := beq_eq_false_iff_ne.mpr c34
    have c34b1 : (t301 != 2) = true := bne_iff_ne.mpr c34
    by_cases c50 : t301 = 3
    ·rw [if_pos c50] at H
     have c50b0 : (t301 == 3) = true := beq_iff_eq.mpr c50
     have c50b1 : (t301 != 3) = false := bne_eq_false_iff_eq.mpr c50
     clear c50
     by_cases c51 : t296.length < 3518437208883
     ·rw [if_pos c51] at H
      have LMc51 := zK c51
      clear c51
      obtain ⟨y331, hy331⟩ : ∃ y_ : List (S47), y_ = (t296 ++ [(⟨(⟨#[105, 110]⟩ : ByteArray), 0, 0, 0⟩ : S47)]) := ⟨_, rfl⟩
      replace H : (some (y331, t302, t303)) = some (r1, r2, r3) := by have hy_ := hy331; exact xH
      have Ny331 := zK hy331
      clear hy331
      simp only [Option.some.injEq, Prod.mk.injEq] at H
      obtain ⟨rfl, rfl, rfl⟩ := H
      go_enter Try.func54, Try.ntmps54
      go_wp2_with (first | ((with_reducible refine gate_callee (f := 108) rfl ?_); refine goesL_ (some 9) rfl rfl Try.func108 yi rfl #[.pointer (some ⟨g, 0, none⟩), .int .i64 a1] rfl yb ?_; (with_reducible refine (spec_l1Cur_expr.calls g s0_0 s0_1 s0_2 a1 t296 t299 t300 w0 _ ?side1 ?side2 A3.out).mono ?_); (case side1 => exact xxk); (case side2 => exact xxl); rintro e w52 ⟨v297, rfl, ho0, hi, hb, hk⟩; refine ⟨_, rfl, ?_⟩; have n0_ := zK (Kd.R_lower ho0 (keep_size (w := w) (g := g) (row := none) yc)); have n1_ := zK (KeepBut.trans yc hk (.inl rfl)); have n2_ := zK (hb); have n3_ := zK (hi); clear HK; clear HB; clear HI0; have HO298 := n0_; have HK := n1_; have HB := n2_; have HI0 := n3_; clear n0_ n1_ n2_ n3_; (try clear hb); (try clear hb2); (try clear hk); (try clear hi); (try clear ho0)) | ((with_reducible refine gate_callee (f := 55) rfl ?_); refine goesL_ (some 11) rfl rfl Try.func55 yi rfl #[.pointer (some ⟨g, 0, none⟩), .int .i64 16] rfl yb ?_; (with_reducible refine (spec_l1Cur_pick.calls g s0_0 t299 t300 16 t301 t302 t303 w0 _ ?side1 ?side2 A4.out).mono ?_); (case side1 => exact xxk); (case side2 => exact xxl); rintro e w53 ⟨rfl, hi, hb, hk⟩; refine ⟨_, rfl, ?_⟩; have n0_ := zK (Kd.R_mono (Kd.R_keep (IsS59.apart (show IsS59 w0 _ g s0_0 t299 t300 from by repeat (first | (with_reducible first | exact HI0.out | apply IsS59.alloc | apply IsS59.drewN | apply IsS59.drew | apply IsS59.set_1 | apply IsS59.set_2) | exact HI0.out)) ym yp1) hk (fun _ h => h.2)) (fun _ h => h.1)); have n1_ := zK (KeepBut.trans yc hk (.inl rfl)); have n2_ := zK (hb); have n3_ := zK (hi); clear HO298; clear HK; clear HB; clear HI0; have HO298 := n0_; have HK := n1_; have HB := n2_; have HI0 := n3_; clear n0_ n1_ n2_ n3_; (try clear hb); (try clear hb2); (try clear hk); (try clear hi)) | ((with_reducible refine gate_builtin (b := .append) (xs := #[.tmp 54, .tmp 56]) rfl ?_); at_builtin; refine Kd.R_append k47 w.heap.size rfl (.tmp 54) (.tmp 56) 24 47 (.agg #[(.string ⟨#[]⟩), (.int .i64 0), (.int .i64 0), (.int .i64 0)]) 40 rfl Try.underlying24 info47 rfl yp1 (by omega) v297 t296 (⟨(⟨#[105, 110]⟩ : ByteArray), 0, 0, 0⟩ : S47) [.string (⟨#[105, 110]⟩ : ByteArray), .int .i64 0, .int .i64 0, .int .i64 0] (fun _ => True) (fun _ => False) rfl rfl ?aP (fun _ hk => hk.elim) ?aF ?aO (Below.refl _ _) ?aS ?aL ?_; (case aP => exact k47_mkM _ _ _ (⟨(⟨#[105, 110]⟩ : ByteArray), 0, 0, 0⟩ : S47)); (case aF => exact (fun _ _ => trivial)); (case aO => exact ym); (case aS => exact (keep_size (w := w) (g := g) (row := none) yc)); (case aL => have := LMc51.out; omega); intro v332 w54 ho hb hg hat; rw [← Ny331.out] at ho; have n0_ := zK (IsS59.grown yf hg (IsS59.own_ne HI0.out HO298.out yp1)); have n1_ := zK (below_weaken yh HL.out hb); have n2_ := zK (KeepBut.trans yc (KeepBut.of_grown hg g) (Kd.R_base2 HO298.out)); have n3_ := zK (ho); clear HI0; clear HB; clear HK; clear HO298; have HI0 := n0_; have HB := n1_; have HK := n2_; have HO333 := n3_; clear n0_ n1_ n2_ n3_; clear ho hb hg hat))
      go_ret
      exact ⟨_, yd, yR HO333.out, yf, yh, yc⟩
     ·rw [if_neg c51] at H
      exact absurd H ye1
    ·rw [if_neg c50] at H
     have c50b0 : (t301 == 3) = false := beq_eq_false_iff_ne.mpr c50
     have c50b1 : (t301 != 3) = true := bne_iff_ne.mpr c50
     by_cases c55 : t301 = 4
     ·rw [if_pos c55] at H
      have c55b0 : (t301 == 4) = true := beq_iff_eq.mpr c55
      have c55b1 : (t301 != 4) = false := bne_eq_false_iff_eq.mpr c55
      clear c55
      obtain ⟨y334, hy334⟩ : ∃ y_ : List (S47), y_ = (([(⟨(⟨#[105, 110]⟩ : ByteArray), 0, 0, 0⟩ : S47)] : List (S47))) := ⟨_, rfl⟩
      replace H : (spec_l1Cur_anyExpr.l0 k y334 s0_0 t302 t303) = some (r1, r2, r3) := by have hy_ := hy334; exact xH
      have Ny334 := zK hy334
      clear hy334
      have H' := zK H
      clear H
      go_enter Try.func54, Try.ntmps54
      go_wp2_with (first | ((with_reducible refine gate_callee (f := 108) rfl ?_); refine goesL_ (some 9) rfl rfl Try.func108 yi rfl #[.pointer (some ⟨g, 0, none⟩), .int .i64 a1] rfl yb ?_; (with_reducible refine (spec_l1Cur_expr.calls g s0_0 s0_1 s0_2 a1 t296 t299 t300 w0 _ ?side1 ?side2 A3.out).mono ?_); (case side1 => exact xxk); (case side2 => exact xxl); rintro e w56 ⟨v297, rfl, ho0, hi, hb, hk⟩; refine ⟨_, rfl, ?_⟩; have n0_ := zK (Kd.R_lower ho0 (keep_size (w := w) (g := g) (row := none) yc)); have n1_ := zK (KeepBut.trans yc hk (.inl rfl)); have n2_ := zK (hb); have n3_ := zK (hi); clear HK; clear HB; clear HI0; have HO298 := n0_; have HK := n1_; have HB := n2_; have HI0 := n3_; clear n0_ n1_ n2_ n3_; (try clear hb); (try clear hb2); (try clear hk); (try clear hi); (try clear ho0)) | ((with_reducible refine gate_callee (f := 55) rfl ?_); refine goesL_ (some 11) rfl rfl Try.func55 yi rfl #[.pointer (some ⟨g, 0, none⟩), .int .i64 16] rfl yb ?_; (with_reducible refine (spec_l1Cur_pick.calls g s0_0 t299 t300 16 t301 t302 t303 w0 _ ?side1 ?side2 A4.out).mono ?_); (case side1 => exact xxk); (case side2 => exact xxl); rintro e w57 ⟨rfl, hi, hb, hk⟩; refine ⟨_, rfl, ?_⟩; have n0_ := zK (Kd.R_mono (Kd.R_keep (IsS59.apart (show IsS59 w0 _ g s0_0 t299 t300 from by repeat (first | (with_reducible first | exact HI0.out | apply IsS59.alloc | apply IsS59.drewN | apply IsS59.drew | apply IsS59.set_1 | apply IsS59.set_2) | exact HI0.out)) ym yp1) hk (fun _ h => h.2)) (fun _ h => h.1)); have n1_ := zK (KeepBut.trans yc hk (.inl rfl)); have n2_ := zK (hb); have n3_ := zK (hi); clear HO298; clear HK; clear HB; clear HI0; have HO298 := n0_; have HK := n1_; have HB := n2_; have HI0 := n3_; clear n0_ n1_ n2_ n3_; (try clear hb); (try clear hb2); (try clear hk); (try clear hi)) | ((with_reducible refine gate_dst (N := 61) rfl ?_); refine Kd.R_lit k47 _ 47 ?hg (N := 61) ?hd (xs := ([(⟨(⟨#[105, 110]⟩ : ByteArray), 0, 0, 0⟩ : S47)] : List (S47))) (inner := [.string (⟨#[105, 110]⟩ : ByteArray), .int .i64 0, .int .i64 0, .int .i64 0]) (ok := fun _ => True) (okp := fun _ => True) ?hr ?hp (fun _ hk => hk) trivial (Below.refl _ _) (Nat.le_refl _) ye1 ?_; (case hd | hg => rfl); (case hr => exact xxa); (case hp => exact xxb); intro v335 w58 ho59 hb hg_ hnew_; clear hg_ hnew_; (first | rw [← Ny334.out] at ho59 | (simp only [Int.reduceToNat] at ho59; rw [← Ny334.out] at ho59)); have n0_ := zK (Kd.R_elder' ym (Kd.R_base ho59) hb); have n1_ := zK (Kd.R_lower (Kd.R_new' ho59 (Kd.R_lt ym)) (keep_size (w := w) (g := g) (row := none) yc)); have n2_ := zK (IsS59.below yf hb); have n3_ := zK (KeepBut.trans yc (KeepBut.of_below hb g none) (.inl rfl)); have n4_ := zK (zL yh hb); clear HO298; clear HI0; clear HK; clear HB; have HO298 := n0_; have HO336 := n1_; have HI0 := n2_; have HK := n3_; have HB := n4_; clear n0_ n1_ n2_ n3_ n4_; clear hb ho59))
      go_loopg [5] k (fun kq v5 w' => ∃ (x5_1 : List (S47)) (x1001_1 : Int) (x1002_1 : Int), Aside0 (spec_l1Cur_anyExpr.l0 kq x5_1 s0_0 x1001_1 x1002_1 = some (r1, r2, r3)) ∧ Aside0 (kq ≤ k) ∧ Aside0 (Kd.R k47 47 w' w.heap.size (fun _ => True) v5 x5_1) ∧ Aside0 (IsS59 w0 w' g s0_0 x1001_1 x1002_1) ∧ Aside0 (KeepBut w w' g none) ∧ Aside0 (Below w0.heap.size w0 w'))
      case atStart => exact ⟨(y334), (t302), (t303), H', ⟨Nat.le_refl _⟩, ⟨by (with_reducible repeat (first | apply Kd.R_alloc | apply Kd.R_drewN | apply Kd.R_drew)); exact Kd.R_mono HO336.out (fun _ hk => trivial)⟩, ⟨yf⟩, ⟨yc⟩, ⟨yh⟩⟩
      case round =>
       clear H'
       try clear c1
       try clear p1
       try clear q1
       try clear hx1
       try clear c2
       try clear p2
       try clear q2
       try clear hx2
       try clear hf2
       try clear c3
       try clear p3
       try clear q3
       try clear hx3
       try clear hf3
       try clear c4
       try clear hx4
       try clear hf4
       try clear c5
       try clear c5b0
       try clear c5b1
       try clear p6
       try clear c7
       try clear c8
       try clear c8b0
       try clear c9
       try clear c9b0
       try clear c10
       try clear p10
       try clear q10
       try clear hx10
       try clear hf10
       try clear c16
       try clear hx16
       try clear hf16
       try clear c18
       try clear c18b0
       try clear c18b1
       try clear c21
       try clear c21b0
       try clear c22
       try clear c22b0
       try clear c23
       try clear p23
       try clear q23
       try clear hx23
       try clear hf23
       try clear c32
       try clear hx32
       try clear hf32
       try clear c34
       try clear c34b0
       try clear c34b1
       try clear c37
       try clear c37b0
       try clear c38
       try clear c38b0
       try clear c39
       try clear p39
       try clear q39
       try clear hx39
       try clear hf39
       try clear c48
       try clear hx48
       try clear hf48
       try clear c50
       try clear c50b0
       try clear c50b1
       try clear c51
       try clear c54
       try clear c55
       try clear c55b0
       try clear c55b1
       try clear hx10_0
       try clear hx10_1
       try clear hx10_2
       try clear hx10_3
       try clear hx16_1
       try clear hx23_0
       try clear hx23_1
       try clear hx23_2
       try clear hx23_3
       try clear hx32_0
       try clear hx39_0
       try clear hx39_1
       try clear hx39_2
       try clear hx39_3
       try clear hx48_3
       try clear p10
       try clear p23
       try clear p39
       try clear q10
       try clear q23
       try clear q39
       obtain ⟨x5_1, x1001_1, x1002_1, HA, HK1, HO_5, HI0, HK, HB⟩ := hrel
       cases gk with
       | zero => exact absurd HA.out (by simp [spec_l1Cur_anyExpr.l0])
       | succ k1 =>
        have H := HA.out
        clear HA
        simp only [spec_l1Cur_anyExpr.l0] at H
        replace H := Option.bind_eq_some_iff.mp H
        obtain ⟨⟨t337, t338, t339⟩, A600, H⟩ := H
        replace H : (if (x5_1.length : Int) < (wrap64 (24 + t337)) then (if x5_1.length < 3518437208883 then (spec_l1Cur_anyExpr.l0 k1 (x5_1 ++ [(⟨(⟨#[97, 100, 100]⟩ : ByteArray), wrap64 ((x5_1.length : Int) - 1), wrap64 ((x5_1.length : Int) - 1), 0⟩ : S47)]) s0_0 t338 t339) else (none)) else (some (x5_1, t338, t339))) = some (r1, r2, r3) := H
        have A60 := zK A600
        clear A600
        by_cases c61 : (x5_1.length : Int) < (wrap64 (24 + t337))
        ·rw [if_pos c61] at H
         have c61b0 : decide ((x5_1.length : Int) < (wrap64 (24 + t337))) = true := decide_eq_true c61
         clear c61
         by_cases c62 : x5_1.length < 3518437208883
         ·rw [if_pos c62] at H
          have LMc62 := zK c62
          clear c62
          obtain ⟨y340, hy340⟩ : ∃ y_ : List (S47), y_ = (x5_1 ++ [(⟨(⟨#[97, 100, 100]⟩ : ByteArray), wrap64 ((x5_1.length : Int) - 1), wrap64 ((x5_1.length : Int) - 1), 0⟩ : S47)]) := ⟨_, rfl⟩
          replace H : (spec_l1Cur_anyExpr.l0 k1 y340 s0_0 t338 t339) = some (r1, r2, r3) := by have hy_ := hy340; exact xH
          have Ny340 := zK hy340
          clear hy340
          have H' := zK H
          clear H
          obtain ⟨Ao63, co63, eo63⟩ := Kd.R_slice HO_5.out
          subst eo63
          go_wp2_with (first | ((with_reducible refine gate_callee (f := 55) rfl ?_); refine goesL_ (some 65) rfl rfl Try.func55 yi rfl #[.pointer (some ⟨g, 0, none⟩), .int .i64 2] rfl yb ?_; (with_reducible refine (spec_l1Cur_pick.calls g s0_0 x1001_1 x1002_1 2 t337 t338 t339 w0 _ ?side1 ?side2 A60.out).mono ?_); (case side1 => exact xxk); (case side2 => exact xxl); rintro e w64 ⟨rfl, hi, hb, hk⟩; refine ⟨_, rfl, ?_⟩; have n0_ := zK (Kd.R_mono (Kd.R_keep (IsS59.apart (show IsS59 w0 _ g s0_0 x1001_1 x1002_1 from by repeat (first | (with_reducible first | exact HI0.out | apply IsS59.alloc | apply IsS59.drewN | apply IsS59.drew | apply IsS59.set_1 | apply IsS59.set_2) | exact HI0.out)) yj yp1) hk (fun _ h => h.2)) (fun _ h => h.1)); have n1_ := zK (KeepBut.trans yc hk (.inl rfl)); have n2_ := zK (hb); have n3_ := zK (hi); clear HO_5; clear HK; clear HB; clear HI0; have HO_5 := n0_; have HK := n1_; have HB := n2_; have HI0 := n3_; clear n0_ n1_ n2_ n3_; (try clear hb); (try clear hb2); (try clear hk); (try clear hi)) | ((with_reducible refine gate_builtin (b := .append) (xs := #[.tmp 68, .tmp 76]) rfl ?_); at_builtin; refine Kd.R_append k47 w.heap.size rfl (.tmp 68) (.tmp 76) 24 47 (.agg #[(.string ⟨#[]⟩), (.int .i64 0), (.int .i64 0), (.int .i64 0)]) 40 rfl Try.underlying24 info47 rfl yp1 (by omega) (.slice Ao63 x5_1.length co63) x5_1 (⟨(⟨#[97, 100, 100]⟩ : ByteArray), wrap64 ((x5_1.length : Int) - 1), wrap64 ((x5_1.length : Int) - 1), 0⟩ : S47) [.string (⟨#[97, 100, 100]⟩ : ByteArray), .int .i64 (wrap64 ((x5_1.length : Int) - 1)), .int .i64 (wrap64 ((x5_1.length : Int) - 1)), .int .i64 0] (fun _ => True) (fun _ => False) rfl rfl ?aP (fun _ hk => hk.elim) ?aF ?aO (Below.refl _ _) ?aS ?aL ?_; (case aP => exact k47_mkM _ _ _ (⟨(⟨#[97, 100, 100]⟩ : ByteArray), wrap64 ((x5_1.length : Int) - 1), wrap64 ((x5_1.length : Int) - 1), 0⟩ : S47)); (case aF => exact (fun _ _ => trivial)); (case aO => exact yj); (case aS => exact (keep_size (w := w) (g := g) (row := none) yc)); (case aL => have := LMc62.out; omega); intro v341 w65 ho hb hg hat; rw [← Ny340.out] at ho; have n0_ := zK (IsS59.grown yf hg (IsS59.own_ne HI0.out HO_5.out yp1)); have n1_ := zK (below_weaken yh HL.out hb); have n2_ := zK (KeepBut.trans yc (KeepBut.of_grown hg g) (Kd.R_base2 HO_5.out)); have n3_ := zK (ho); clear HI0; clear HB; clear HK; clear HO_5; have HI0 := n0_; have HB := n1_; have HK := n2_; have HO342 := n3_; clear n0_ n1_ n2_ n3_; clear ho hb hg hat))
          go_roundg k1
          case measure => have := HK1.out; omega
          case rel => exact ⟨(y340), (t338), (t339), H', ⟨yb2⟩, ⟨yR HO342.out⟩, ⟨yf⟩, ⟨yc⟩, ⟨yh⟩⟩
         ·rw [if_neg c62] at H
          exact absurd H ye1
        ·rw [if_neg c61] at H
         have c61b0 : decide ((x5_1.length : Int) < (wrap64 (24 + t337))) = false := decide_eq_false c61
         clear c61
         simp only [Option.some.injEq, Prod.mk.injEq] at H
         obtain ⟨rfl, rfl, rfl⟩ := H
         obtain ⟨Ao66, co66, eo66⟩ := Kd.R_slice HO_5.out
         subst eo66
         go_wp2_with (first | ((with_reducible refine gate_callee (f := 55) rfl ?_); refine goesL_ (some 65) rfl rfl Try.func55 yi rfl #[.pointer (some ⟨g, 0, none⟩), .int .i64 2] rfl yb ?_; (with_reducible refine (spec_l1Cur_pick.calls g s0_0 x1001_1 x1002_1 2 t337 t338 t339 w0 _ ?side1 ?side2 A60.out).mono ?_); (case side1 => exact xxk); (case side2 => exact xxl); rintro e w67 ⟨rfl, hi, hb, hk⟩; refine ⟨_, rfl, ?_⟩; have n0_ := zK (Kd.R_mono (Kd.R_keep (IsS59.apart (show IsS59 w0 _ g s0_0 x1001_1 x1002_1 from by repeat (first | (with_reducible first | exact HI0.out | apply IsS59.alloc | apply IsS59.drewN | apply IsS59.drew | apply IsS59.set_1 | apply IsS59.set_2) | exact HI0.out)) yj yp1) hk (fun _ h => h.2)) (fun _ h => h.1)); have n1_ := zK (KeepBut.trans yc hk (.inl rfl)); have n2_ := zK (hb); have n3_ := zK (hi); clear HO_5; clear HK; clear HB; clear HI0; have HO_5 := n0_; have HK := n1_; have HB := n2_; have HI0 := n3_; clear n0_ n1_ n2_ n3_; (try clear hb); (try clear hb2); (try clear hk); (try clear hi)))
         go_ret
         exact ⟨_, yd, yj, yf, yh, yc⟩
     ·rw [if_neg c55] at H
      have c55b0 : (t301 == 4) = false := beq_eq_false_iff_ne.mpr c55
      have c55b1 : (t301 != 4) = true := bne_iff_ne.mpr c55
      by_cases c68 : t301 = 5
      ·rw [if_pos c68] at H
       have c68b0 : (t301 == 5) = true := beq_iff_eq.mpr c68
       have c68b1 : (t301 != 5) = false := bne_eq_false_iff_eq.mpr c68
       clear c68
       simp only [Option.some.injEq, Prod.mk.injEq] at H
       obtain ⟨rfl, rfl, rfl⟩ := H
       go_enter Try.func54, Try.ntmps54
       go_wp2_with (first | ((with_reducible refine gate_callee (f := 108) rfl ?_); refine goesL_ (some 9) rfl rfl Try.func108 yi rfl #[.pointer (some ⟨g, 0, none⟩), .int .i64 a1] rfl yb ?_; (with_reducible refine (spec_l1Cur_expr.calls g s0_0 s0_1 s0_2 a1 t296 t299 t300 w0 _ ?side1 ?side2 A3.out).mono ?_); (case side1 => exact xxk); (case side2 => exact xxl); rintro e w69 ⟨v297, rfl, ho0, hi, hb, hk⟩; refine ⟨_, rfl, ?_⟩; have n0_ := zK (Kd.R_lower ho0 (keep_size (w := w) (g := g) (row := none) yc)); have n1_ := zK (KeepBut.trans yc hk (.inl rfl)); have n2_ := zK (hb); have n3_ := zK (hi); clear HK; clear HB; clear HI0; have HO298 := n0_; have HK := n1_; have HB := n2_; have HI0 := n3_; clear n0_ n1_ n2_ n3_; (try clear hb); (try clear hb2); (try clear hk); (try clear hi); (try clear ho0)) | ((with_reducible refine gate_callee (f := 55) rfl ?_); refine goesL_ (some 11) rfl rfl Try.func55 yi rfl #[.pointer (some ⟨g, 0, none⟩), .int .i64 16] rfl yb ?_; (with_reducible refine (spec_l1Cur_pick.calls g s0_0 t299 t300 16 t301 t302 t303 w0 _ ?side1 ?side2 A4.out).mono ?_); (case side1 => exact xxk); (case side2 => exact xxl); rintro e w70 ⟨rfl, hi, hb, hk⟩; refine ⟨_, rfl, ?_⟩; have n0_ := zK (Kd.R_mono (Kd.R_keep (IsS59.apart (show IsS59 w0 _ g s0_0 t299 t300 from by repeat (first | (with_reducible first | exact HI0.out | apply IsS59.alloc | apply IsS59.drewN | apply IsS59.drew | apply IsS59.set_1 | apply IsS59.set_2) | exact HI0.out)) ym yp1) hk (fun _ h => h.2)) (fun _ h => h.1)); have n1_ := zK (KeepBut.trans yc hk (.inl rfl)); have n2_ := zK (hb); have n3_ := zK (hi); clear HO298; clear HK; clear HB; clear HI0; have HO298 := n0_; have HK := n1_; have HB := n2_; have HI0 := n3_; clear n0_ n1_ n2_ n3_; (try clear hb); (try clear hb2); (try clear hk); (try clear hi)))
       go_ret
       exact ⟨_, yd, yd1, yf, yh, yc⟩
      ·rw [if_neg c68] at H
       have c68b0 : (t301 == 5) = false := beq_eq_false_iff_ne.mpr c68
       have c68b1 : (t301 != 5) = true := bne_iff_ne.mpr c68
       simp only [Option.some.injEq, Prod.mk.injEq] at H
       obtain ⟨rfl, rfl, rfl⟩ := H
       go_enter Try.func54, Try.ntmps54
       go_wp2_with (first | ((with_reducible refine gate_callee (f := 108) rfl ?_); refine goesL_ (some 9) rfl rfl Try.func108 yi rfl #[.pointer (some ⟨g, 0, none⟩), .int .i64 a1] rfl yb ?_; (with_reducible refine (spec_l1Cur_expr.calls g s0_0 s0_1 s0_2 a1 t296 t299 t300 w0 _ ?side1 ?side2 A3.out).mono ?_); (case side1 => exact xxk); (case side2 => exact xxl); rintro e w71 ⟨v297, rfl, ho0, hi, hb, hk⟩; refine ⟨_, rfl, ?_⟩; have n0_ := zK (Kd.R_lower ho0 (keep_size (w := w) (g := g) (row := none) yc)); have n1_ := zK (KeepBut.trans yc hk (.inl rfl)); have n2_ := zK (hb); have n3_ := zK (hi); clear HK; clear HB; clear HI0; have HO298 := n0_; have HK := n1_; have HB := n2_; have HI0 := n3_; clear n0_ n1_ n2_ n3_; (try clear hb); (try clear hb2); (try clear hk); (try clear hi); (try clear ho0)) | ((with_reducible refine gate_callee (f := 55) rfl ?_); refine goesL_ (some 11) rfl rfl Try.func55 yi rfl #[.pointer (some ⟨g, 0, none⟩), .int .i64 16] rfl yb ?_; (with_reducible refine (spec_l1Cur_pick.calls g s0_0 t299 t300 16 t301 t302 t303 w0 _ ?side1 ?side2 A4.out).mono ?_); (case side1 => exact xxk); (case side2 => exact xxl); rintro e w72 ⟨rfl, hi, hb, hk⟩; refine ⟨_, rfl, ?_⟩; have n0_ := zK (Kd.R_mono (Kd.R_keep (IsS59.apart (show IsS59 w0 _ g s0_0 t299 t300 from by repeat (first | (with_reducible first | exact HI0.out | apply IsS59.alloc | apply IsS59.drewN | apply IsS59.drew | apply IsS59.set_1 | apply IsS59.set_2) | exact HI0.out)) ym yp1) hk (fun _ h => h.2)) (fun _ h => h.1)); have n1_ := zK (KeepBut.trans yc hk (.inl rfl)); have n2_ := zK (hb); have n3_ := zK (hi); clear HO298; clear HK; clear HB; clear HI0; have HO298 := n0_; have HK := n1_; have HB := n2_; have HI0 := n3_; clear n0_ n1_ n2_ n3_; (try clear hb); (try clear hb2); (try clear hk); (try clear hi)))
       go_ret
       exact ⟨_, yd, ym, yf, yh, yc⟩

/-! ### spec_newstate: function 157 -/
def spec_newstate.f (l0 : List Int) : Option (List Int × Int × Int) := some (l0, 0, 0)
theorem spec_newstate.box {w0 w w4 : World} {g c0 : Nat} {A0 : Option Addr} {l0 r1 : List Int} {r2 r3 : Int} (hg : g = w.heap.size) (hbox : w4.heap[g]? = some (.cells #[.slice A0 l0.length c0, .int .i64 0, .int .u64 0] 59 (0, 0))) (hb2 : Below w.heap.size w w4) (hB : Below w0.heap.size w0 w) (hr0 : Kd.C (Kd.int .u8) w0 A0 l0.length l0) (h : spec_newstate.f l0 = some (r1, r2, r3)) : IsS59 w0 w4 g r1 r2 r3 ∧ Below w0.heap.size w0 w4 := by
 unfold spec_newstate.f at h
 simp only [Option.some.injEq, Prod.mk.injEq] at h
 obtain ⟨rfl, rfl, rfl⟩ := h
 exact ⟨⟨_, _, hbox, by rw [hg]; exact hB.size, hr0⟩, zL hB hb2⟩

/-! ### spec_DrawFoldExpr: function 35 -/
def spec_DrawFoldExpr.l0 : Nat → List (S47) → Int → Int → List Int → Int → Int → Option ((List (S47)))
 | 0, _, _, _, _, _, _ => none
 | k + 1, x4, x12, x13, x348000, x348001, x348002 => if x13 < x12 then (if 0 ≤ x13 then (if x13 < (x4.length : Int) then (if ((rd_T47 x4 x13).f0).toList = ([105, 110] : List UInt8) then ((spec_l1Cur_one.f x348000 x348001 x348002 2).bind fun bt354 => (if bt354.1 = true then ((spec_l1Cur_word.f x348000 bt354.2.1 bt354.2.2).bind fun bt357 => (spec_DrawFoldExpr.l0 k (x4.set (x13 : Int).toNat (⟨(⟨#[99, 111, 110, 115, 116]⟩ : ByteArray), 0, 0, bt357.1⟩ : S47)) x12 (wrap64 (x13 + 1)) x348000 bt357.2.1 bt357.2.2)) else (spec_DrawFoldExpr.l0 k x4 x12 (wrap64 (x13 + 1)) x348000 bt354.2.1 bt354.2.2))) else (spec_DrawFoldExpr.l0 k x4 x12 (wrap64 (x13 + 1)) x348000 x348001 x348002)) else (none)) else (none)) else (some x4)
def spec_DrawFoldExpr.f (k : Nat) (l0 : List Int) : Option ((List (S47))) := (spec_newstate.f l0).bind fun bt344 => ((spec_l1Cur_anyExpr.f k bt344.1 bt344.2.1 bt344.2.2 4).bind fun bt348 => (spec_DrawFoldExpr.l0 k bt348.1 (bt348.1.length : Int) 0 bt344.1 bt348.2.1 bt348.2.2))
set_option maxHeartbeats 8000000 in
set_option maxRecDepth 100000 in
theorem spec_DrawFoldExpr.calls (k : Nat) (A0 : Option Addr) (c0 : Nat) (l0 : List Int) (r : List (S47)) (w : World) (hr0 : Kd.C (Kd.int .u8) w A0 l0.length l0) (hc0 : l0.length ≤ c0) (h : spec_DrawFoldExpr.f k l0 = some r) :
  Calls Try.prog 35 #[.slice A0 l0.length c0] w fun e w' => ∃ v0_ : Value, e = .returned (v0_) ∧ Kd.R k47 47 w' w.heap.size (fun _ => True) v0_ r ∧ Below w.heap.size w w' := by
 have hu47 := Try.underlying47
 have HR0 := zK hr0
 have HC0 := zK hc0
 clear hr0 hc0
 have HB := zK (Below.refl w.heap.size w)
 have H : ((spec_newstate.f l0).bind fun bt344 => ((spec_l1Cur_anyExpr.f k bt344.1 bt344.2.1 bt344.2.2 4).bind fun bt348 => (spec_DrawFoldExpr.l0 k bt348.1 (bt348.1.length : Int) 0 bt344.1 bt348.2.1 bt348.2.2))) = some r := h
 clear h
 replace H := Option.bind_eq_some_iff.mp H
 obtain ⟨⟨t344, t345, t346⟩, A20, H⟩ := H
 replace H : ((spec_l1Cur_anyExpr.f k t344 t345 t346 4).bind fun bt348 => (spec_DrawFoldExpr.l0 k bt348.1 (bt348.1.length : Int) 0 t344 bt348.2.1 bt348.2.2)) = some r := H
 have A2 := zK A20
 clear A20
 replace H := Option.bind_eq_some_iff.mp H
 obtain ⟨⟨t348, t351, t352⟩, A30, H⟩ := H
 replace H : (spec_DrawFoldExpr.l0 k t348 (t348.length : Int) 0 t344 t351 t352) = some r := H
 have A3 := zK A30
 clear A30
 have H' := zK H
 clear H
 go_enter Try.func35, Try.ntmps35
 go_wp2_with (first | ((with_reducible refine gate_dst (N := 8) rfl ?_); refine box_event ?hg (N := 8) ?hd (cs := #[.slice A0 l0.length c0, .int .i64 0, .int .u64 0]) (t := 59) ?hr ?_; (case hd | hg => rfl); (case hr => exact xxa); intro g347 hg w4 hbox hb2; obtain ⟨hi, hb⟩ := spec_newstate.box hg hbox hb2 ya HR0.out A2.out; clear hbox hg; have n0_ := zK (hb); have n1_ := zK (hi); clear HB; have HB := n0_; have HI347 := n1_; clear n0_ n1_; (try clear hb); (try clear hb2); (try clear hk); (try clear hi)) | ((with_reducible refine gate_callee (f := 54) rfl ?_); refine goesL_ (some 10) rfl rfl Try.func54 yi rfl #[.pointer (some ⟨g347, 0, none⟩), .int .i64 4] rfl yb ?_; (with_reducible refine (spec_l1Cur_anyExpr.calls k g347 t344 t345 t346 4 t348 t351 t352 w _ ?side1 ?side2 A3.out).mono ?_); (case side1 => exact xxp); (case side2 => exact xxq); rintro e w5 ⟨v349, rfl, ho0, hi, hb, hk⟩; refine ⟨_, rfl, ?_⟩; have n0_ := zK (Kd.R_lower ho0 (zN yw1)); have n1_ := zK (hb); have n2_ := zK (hi); clear HB; clear HI347; have HO350 := n0_; have HB := n1_; have HI347 := n2_; clear n0_ n1_ n2_; (try clear hb); (try clear hb2); (try clear hk); (try clear hi); (try clear ho0); obtain ⟨Ao6, co6, eo6⟩ := Kd.R_slice HO350.out; subst eo6))
 go_loopg [13] k (fun kq v13 w' => ∃ (x4_1 : List (S47)) (x13_1 : Int) (x348001_1 : Int) (x348002_1 : Int), v13 = .int .i64 x13_1 ∧ Aside0 (spec_DrawFoldExpr.l0 kq x4_1 (t348.length : Int) x13_1 t344 x348001_1 x348002_1 = some r) ∧ Aside0 (kq ≤ k) ∧ Aside0 (Kd.R k47 47 w' w.heap.size (fun _ => True) (.slice Ao6 t348.length co6) x4_1) ∧ Aside0 (IsS59 w w' g347 t344 x348001_1 x348002_1) ∧ Aside0 (Below w.heap.size w w'))
 case atStart => exact ⟨(t348), (0), (t351), (t352), ye, H', ⟨Nat.le_refl _⟩, ⟨yR HO350.out⟩, ⟨yv1⟩, ⟨yw1⟩⟩
 case round =>
  clear H'
  try clear c1
  try clear p2
  try clear c3
  try clear c5
  obtain ⟨x4_1, x13_1, x348001_1, x348002_1, rfl, HA, HK1, HO_4, HI347, HB⟩ := hrel
  have hl4_1 := (Kd.R_reads' HO_4.out).1
  rw [hl4_1] at HO_4
  (try simp only [hl4_1])
  cases gk with
  | zero => exact absurd HA.out (by simp [spec_DrawFoldExpr.l0])
  | succ k1 =>
   have H := HA.out
   clear HA
   simp only [spec_DrawFoldExpr.l0] at H
   by_cases c7 : x13_1 < (t348.length : Int)
   ·rw [if_pos c7] at H
    have c7b0 : decide (x13_1 < (t348.length : Int)) = true := decide_eq_true c7
    clear c7
    by_cases c8 : 0 ≤ x13_1
    ·rw [if_pos c8] at H
     have c8b0 : decide (0 ≤ x13_1) = true := decide_eq_true c8
     clear c8
     by_cases c9 : x13_1 < (x4_1.length : Int)
     ·rw [if_pos c9] at H
      have c9b0 : decide (x13_1 < (x4_1.length : Int)) = true := decide_eq_true c9
      clear c9
      by_cases c10 : ((rd_T47 x4_1 x13_1).f0).toList = ([105, 110] : List UInt8)
      ·rw [if_pos c10] at H
       have c10b0 : (((rd_T47 x4_1 x13_1).f0).toList == ([105, 110] : List UInt8)) = true := beq_iff_eq.mpr c10
       have c10b1 : (((rd_T47 x4_1 x13_1).f0).toList != ([105, 110] : List UInt8)) = false := bne_eq_false_iff_eq.mpr c10
       clear c10
       replace H := Option.bind_eq_some_iff.mp H
       obtain ⟨⟨t354, t355, t356⟩, A110, H⟩ := H
       replace H : (if t354 = true then ((spec_l1Cur_word.f t344 t355 t356).bind fun bt357 => (spec_DrawFoldExpr.l0 k1 (x4_1.set (x13_1 : Int).toNat (⟨(⟨#[99, 111, 110, 115, 116]⟩ : ByteArray), 0, 0, bt357.1⟩ : S47)) (t348.length : Int) (wrap64 (x13_1 + 1)) t344 bt357.2.1 bt357.2.2)) else (spec_DrawFoldExpr.l0 k1 x4_1 (t348.length : Int) (wrap64 (x13_1 + 1)) t344 t355 t356)) = some r := H
       have A11 := zK A110
       clear A110
       by_cases c12 : t354 = true
       ·subst c12
        rw [if_pos rfl] at H
        replace H := Option.bind_eq_some_iff.mp H
        obtain ⟨⟨t357, t358, t359⟩, A130, H⟩ := H
        replace H : (spec_DrawFoldExpr.l0 k1 (x4_1.set (x13_1 : Int).toNat (⟨(⟨#[99, 111, 110, 115, 116]⟩ : ByteArray), 0, 0, t357⟩ : S47)) (t348.length : Int) (wrap64 (x13_1 + 1)) t344 t358 t359) = some r := H
        have A13 := zK A130
        clear A130
        obtain ⟨y360, hy360⟩ : ∃ y_ : List (S47), y_ = (x4_1.set (x13_1 : Int).toNat (⟨(⟨#[99, 111, 110, 115, 116]⟩ : ByteArray), 0, 0, t357⟩ : S47)) := ⟨_, rfl⟩
        replace H : (spec_DrawFoldExpr.l0 k1 y360 (t348.length : Int) (wrap64 (x13_1 + 1)) t344 t358 t359) = some r := by have hy_ := hy360; exact xH
        have Ny360 := zK hy360
        clear hy360
        have H' := zK H
        clear H
        have p353 : 0 ≤ (x13_1 : Int) := zo
        have q353 : x13_1 < (x4_1.length : Int) := zo
        obtain ⟨ad353, e353, hx353_0, hx353_1, hx353_2, hx353_3⟩ := at_T47 (Kd.R_reads' HO_4.out).2.2 x13_1 p353 q353
        cases e353
        replace p353 := eq_true p353
        replace q353 := eq_true q353
        go_wp2_with (first | (go_at_call 81; (with_reducible refine (spec_l1Cur_one.calls g347 t344 x348001_1 x348002_1 2 true t355 t356 w _ ?side1 ?side2 A11.out).mono ?_); (case side1 => exact xxp); (case side2 => exact xxq); rintro e w15 ⟨rfl, hi, hb, hk⟩; have n0_ := zK (Kd.R_mono (Kd.R_keep (IsS59.apart (show IsS59 w _ g347 t344 x348001_1 x348002_1 from by repeat (first | (with_reducible first | exact HI347.out | apply IsS59.alloc | apply IsS59.drewN | apply IsS59.drew | apply IsS59.set_1 | apply IsS59.set_2) | exact HI347.out)) yi1 yp1) hk (fun _ h => h.2)) (fun _ h => h.1)); have n1_ := zK (hb); have n2_ := zK (hi); clear HO_4; clear HB; clear HI347; have HO_4 := n0_; have HB := n1_; have HI347 := n2_; clear n0_ n1_ n2_; (try clear hb); (try clear hb2); (try clear hk); (try clear hi)) | ((with_reducible refine gate_callee (f := 93) rfl ?_); refine goesL_ (some 29) rfl rfl Try.func93 yi rfl #[.pointer (some ⟨g347, 0, none⟩)] rfl yb ?_; (with_reducible refine (spec_l1Cur_word.calls g347 t344 t355 t356 t357 t358 t359 w _ ?side1 ?side2 A13.out).mono ?_); (case side1 => exact xxp); (case side2 => exact xxq); rintro e w16 ⟨rfl, hi, hb, hk⟩; refine ⟨_, rfl, ?_⟩; have n0_ := zK (Kd.R_mono (Kd.R_keep (IsS59.apart (show IsS59 w _ g347 t344 t355 t356 from by repeat (first | (with_reducible first | exact HI347.out | apply IsS59.alloc | apply IsS59.drewN | apply IsS59.drew | apply IsS59.set_1 | apply IsS59.set_2) | exact HI347.out)) yi1 yp1) hk (fun _ h => h.2)) (fun _ h => h.1)); have n1_ := zK (hb); have n2_ := zK (hi); clear HO_4; clear HB; clear HI347; have HO_4 := n0_; have HB := n1_; have HI347 := n2_; clear n0_ n1_ n2_; (try clear hb); (try clear hb2); (try clear hk); (try clear hi); have p14 : 0 ≤ (x13_1 : Int) := zo; have q14 : (x13_1 : Int) < ((x4_1.length : Int) : Int) := zo; obtain ⟨go14, co14, eo14, gb14, gl14, cl14, HG14⟩ := Kd.R_form HO_4.out (by omega); (first | cases eo14 | (injection eo14 with ea_ en_ ec_; (first | subst ea_ | (injection ea_ with ea_; subst ea_)); subst ec_; clear en_)); have GB14 := zK gb14; have GG14 := zK HG14; clear gb14 gl14 HG14; (first | simp only [add_plain] at hx353_0 | skip); (first | simp only [add_plain] at hx353_1 | skip); (first | simp only [add_plain] at hx353_2 | skip); (first | simp only [add_plain] at hx353_3 | skip); obtain ⟨ce14, hcl14, hM14, hcc14, hfr14⟩ := Kd.R_elem HO_4.out z47 (x13_1 : Int) p14 q14; obtain rfl := k47_openM hM14; have hx14_0 : w16.cell? ⟨go14, (x13_1 : Int).toNat * 4, none⟩ = some (.string ((rd_T47 x4_1 x13_1).f0)) := hcc14 0 _ rfl; have hx14_1 : w16.cell? ⟨go14, (x13_1 : Int).toNat * 4 + 1, none⟩ = some (.int .i64 ((rd_T47 x4_1 x13_1).f1)) := hcc14 1 _ rfl; have hx14_2 : w16.cell? ⟨go14, (x13_1 : Int).toNat * 4 + 2, none⟩ = some (.int .i64 ((rd_T47 x4_1 x13_1).f2)) := hcc14 2 _ rfl; have hx14_3 : w16.cell? ⟨go14, (x13_1 : Int).toNat * 4 + 3, none⟩ = some (.int .i64 ((rd_T47 x4_1 x13_1).f3)) := hcc14 3 _ rfl; have hf14_0 : w16.frozen? ⟨go14, (x13_1 : Int).toNat * 4, none⟩ = false := hfr14 0; have hf14_1 : w16.frozen? ⟨go14, (x13_1 : Int).toNat * 4 + 1, none⟩ = false := hfr14 1; have hf14_2 : w16.frozen? ⟨go14, (x13_1 : Int).toNat * 4 + 2, none⟩ = false := hfr14 2; have hf14_3 : w16.frozen? ⟨go14, (x13_1 : Int).toNat * 4 + 3, none⟩ = false := hfr14 3; clear hcl14 hcc14 hfr14 hM14; replace p14 := eq_true p14; replace q14 := eq_true q14; have HX17 := zK (show Kd.R k47 47 w16 w.heap.size (fun _ => True) (.slice (some ⟨go14, 0, none⟩) x4_1.length co6) x4_1 from yi1); obtain ⟨ce17, hcl17, hM17, hcc17, hfr17⟩ := Kd.R_elem HX17.out z47 (x13_1 : Int) (zo) (by have h_ : (x13_1 : Int) < ((x4_1.length : Int) : Int) := zo; first | exact h_ | (have e_ := (Kd.R_reads' HO_4.out).1; omega) | simpa using h_); obtain rfl := k47_openM hM17; have HP17 := Kd.R_seg HX17.out (x13_1 : Int) (zo) (by have h_ : (x13_1 : Int) < ((x4_1.length : Int) : Int) := zo; first | exact h_ | (have e_ := (Kd.R_reads' HO_4.out).1; omega) | simpa using h_) (seg := [.string (⟨#[99, 111, 110, 115, 116]⟩ : ByteArray), .int .i64 0, .int .i64 0, .int .i64 t357]) (j := 0) hcl17 hcc17 (show 4 ≤ 4 from by decide) (x' := (⟨(⟨#[99, 111, 110, 115, 116]⟩ : ByteArray), 0, 0, t357⟩ : S47)) (k47_mkM _ _ _ (⟨(⟨#[99, 111, 110, 115, 116]⟩ : ByteArray), 0, 0, t357⟩ : S47) ) (fun _ hk => hk); have hx17_0 := hcc17 0 _ rfl; (try simp only [show (k47).sz = 4 from rfl, Nat.mul_one, Nat.add_zero] at hx17_0); have hf17_0 := hfr17 0; (try simp only [show (k47).sz = 4 from rfl, Nat.mul_one, Nat.add_zero] at hf17_0); have hx17_1 := hcc17 1 _ rfl; (try simp only [show (k47).sz = 4 from rfl, Nat.mul_one, Nat.add_zero] at hx17_1); have hf17_1 := hfr17 1; (try simp only [show (k47).sz = 4 from rfl, Nat.mul_one, Nat.add_zero] at hf17_1); have hx17_2 := hcc17 2 _ rfl; (try simp only [show (k47).sz = 4 from rfl, Nat.mul_one, Nat.add_zero] at hx17_2); have hf17_2 := hfr17 2; (try simp only [show (k47).sz = 4 from rfl, Nat.mul_one, Nat.add_zero] at hf17_2); have hx17_3 := hcc17 3 _ rfl; (try simp only [show (k47).sz = 4 from rfl, Nat.mul_one, Nat.add_zero] at hx17_3); have hf17_3 := hfr17 3; (try simp only [show (k47).sz = 4 from rfl, Nat.mul_one, Nat.add_zero] at hf17_3); clear hcl17 hcc17 hfr17 hM17) | ((with_reducible refine gate_store (t := 47) (p := 31) rfl ?_); refine store_event (t := 47) (p := 31) (v := ?vo_w18) (w1 := ((((w16.setCell ⟨go14, (x13_1 : Int).toNat * 4, none⟩ (.string (⟨#[99, 111, 110, 115, 116]⟩ : ByteArray))).setCell ⟨go14, (x13_1 : Int).toNat * 4 + 1, none⟩ (.int .i64 0)).setCell ⟨go14, (x13_1 : Int).toNat * 4 + 2, none⟩ (.int .i64 0)).setCell ⟨go14, (x13_1 : Int).toNat * 4 + 3, none⟩ (.int .i64 t357))) ?hg ?ho ?hn ?hr ?_; (case ho => rfl); (case hg => rfl); (case hn => rfl); (case hr => exact xxa); intro w18 hw; have hg : w16.grownBy w18 (some go14) := (by rw [hw]; exact HP17.2); have hp_ : Kd.R k47 47 w18 w.heap.size (fun _ => True) (.slice (some ⟨go14, 0, none⟩) x4_1.length co6) y360 := (by rw [hw, Ny360.out]; exact HP17.1); clear HP17; have n0_ := zK (hp_); have n1_ := zK (IsS59.grown yv1 hg (IsS59.own_ne HI347.out HO_4.out yp1)); have n2_ := zK ((by rw [hw]; exact zD (zD (zD (zD (HB.out) GB14.out) GB14.out) GB14.out) GB14.out : Below w.heap.size w w18)); clear HO_4; clear HI347; clear HB; have HO_4 := n0_; have HI347 := n1_; have HB := n2_; clear n0_ n1_ n2_; clear hg hw hp_))
        (try simp only [← hl4_1])
        go_roundg k1
        case measure => have := HK1.out; omega
        case rel => exact ⟨(y360), (wrap64 (x13_1 + 1)), (t358), (t359), ye, H', ⟨yb2⟩, ⟨by (try simp only [hl4_1]); (with_reducible repeat (first | apply Kd.R_alloc | apply Kd.R_drewN | apply Kd.R_drew)); exact HO_4.out⟩, ⟨yv1⟩, ⟨yw1⟩⟩
       ·replace c12 := Bool.eq_false_iff.mpr c12
        subst c12
        rw [if_neg (show ¬ (false = true) by decide)] at H
        have H' := zK H
        clear H
        have p353 : 0 ≤ (x13_1 : Int) := zo
        have q353 : x13_1 < (x4_1.length : Int) := zo
        obtain ⟨ad353, e353, hx353_0, hx353_1, hx353_2, hx353_3⟩ := at_T47 (Kd.R_reads' HO_4.out).2.2 x13_1 p353 q353
        cases e353
        replace p353 := eq_true p353
        replace q353 := eq_true q353
        go_wp2_with (first | (go_at_call 81; (with_reducible refine (spec_l1Cur_one.calls g347 t344 x348001_1 x348002_1 2 false t355 t356 w _ ?side1 ?side2 A11.out).mono ?_); (case side1 => exact xxp); (case side2 => exact xxq); rintro e w19 ⟨rfl, hi, hb, hk⟩; have n0_ := zK (Kd.R_mono (Kd.R_keep (IsS59.apart (show IsS59 w _ g347 t344 x348001_1 x348002_1 from by repeat (first | (with_reducible first | exact HI347.out | apply IsS59.alloc | apply IsS59.drewN | apply IsS59.drew | apply IsS59.set_1 | apply IsS59.set_2) | exact HI347.out)) yi1 yp1) hk (fun _ h => h.2)) (fun _ h => h.1)); have n1_ := zK (hb); have n2_ := zK (hi); clear HO_4; clear HB; clear HI347; have HO_4 := n0_; have HB := n1_; have HI347 := n2_; clear n0_ n1_ n2_; (try clear hb); (try clear hb2); (try clear hk); (try clear hi)))
        (try simp only [← hl4_1])
        go_roundg k1
        case measure => have := HK1.out; omega
        case rel => exact ⟨(x4_1), (wrap64 (x13_1 + 1)), (t355), (t356), ye, H', ⟨yb2⟩, ⟨by (try simp only [hl4_1]); (with_reducible repeat (first | apply Kd.R_alloc | apply Kd.R_drewN | apply Kd.R_drew)); exact HO_4.out⟩, ⟨yv1⟩, ⟨yw1⟩⟩
      ·rw [if_neg c10] at H
       have c10b0 : (((rd_T47 x4_1 x13_1).f0).toList == ([105, 110] : List UInt8)) = false := beq_eq_false_iff_ne.mpr c10
       have c10b1 : (((rd_T47 x4_1 x13_1).f0).toList != ([105, 110] : List UInt8)) = true := bne_iff_ne.mpr c10
       have H' := zK H
       clear H
       have p353 : 0 ≤ (x13_1 : Int) := zo
       have q353 : x13_1 < (x4_1.length : Int) := zo
       obtain ⟨ad353, e353, hx353_0, hx353_1, hx353_2, hx353_3⟩ := at_T47 (Kd.R_reads' HO_4.out).2.2 x13_1 p353 q353
       cases e353
       replace p353 := eq_true p353
       replace q353 := eq_true q353
       go_wp2
       (try simp only [← hl4_1])
       go_roundg k1
       case measure => have := HK1.out; omega
       case rel => exact ⟨(x4_1), (wrap64 (x13_1 + 1)), (x348001_1), (x348002_1), ye, H', ⟨yb2⟩, ⟨by (try simp only [hl4_1]); (with_reducible repeat (first | apply Kd.R_alloc | apply Kd.R_drewN | apply Kd.R_drew)); exact HO_4.out⟩, ⟨yv1⟩, ⟨yw1⟩⟩
     ·rw [if_neg c9] at H
      exact absurd H ye1
    ·rw [if_neg c8] at H
     exact absurd H ye1
   ·rw [if_neg c7] at H
    have c7b0 : decide (x13_1 < (t348.length : Int)) = false := decide_eq_false c7
    (try simp only [hl4_1] at c7b0)
    clear c7
    obtain rfl := Option.some.inj H
    go_wp2
    go_ret
    exact ⟨_, yd, yi1, yw1⟩

/-! ### impl_Node_58: function 58 -/
def impl_Node_58.f (l0 : List (S47)) : Option ((List (S47))) := (some (([] : List (S47)) : List (S47))).bind fun y361 => (if y361.length + l0.length < 3518437208883 then (some (y361 ++ l0)) else (none))
-- needs: Derived.Lib.SliceRun
set_option maxHeartbeats 8000000 in
set_option maxRecDepth 100000 in
theorem impl_Node_58.calls (A0 : Option Addr) (c0 : Nat) (l0 : List (S47)) (r : List (S47)) (w : World) (hr0 : Kd.C k47 w A0 l0.length l0) (hc0 : l0.length ≤ c0) (h : impl_Node_58.f l0 = some r) :
  Calls Try.prog 58 #[.slice A0 l0.length c0] w fun e w' => ∃ v0_ : Value, e = .returned (v0_) ∧ Kd.R k47 47 w' w.heap.size (fun _ => True) v0_ r ∧ Below w.heap.size w w' := by
 cases A0 with
 | none =>
  have hl : l0 = [] := by
   rcases Nat.eq_zero_or_pos l0.length with h0 | h0
   ·exact List.length_eq_zero_iff.1 h0
   ·obtain ⟨_, e, _⟩ := hr0.2.2 h0
    cases e
  subst hl
  obtain rfl : r = [] := by
   have h' := h
   simp [impl_Node_58.f] at h'
   exact h'
  clear h hr0 hc0
  have hnil := fun W : World => Lib.run_eql_slice_nil (P := Try.prog) W 24 47 none 0 c0 0 0 Try.underlying24
  simp only [Option.isNone_none, List.length_nil] at hnil ⊢
  go_enter Try.func58, Try.ntmps58
  go_wp2
  go_ret
  exact ⟨_, rfl, Kd.R_nil _ _ _ _ _, Below.refl _ _⟩
 | some ad =>
  have HR0 := zK hr0
  have HC0 := zK hc0
  clear hr0 hc0
  have HB := zK (Below.refl w.heap.size w)
  have H : ((some (([] : List (S47)) : List (S47))).bind fun y361 => (if y361.length + l0.length < 3518437208883 then (some (y361 ++ l0)) else (none))) = some r := h
  clear h
  obtain ⟨y361, hy361⟩ : ∃ y_ : List (S47), y_ = (([] : List (S47))) := ⟨_, rfl⟩
  replace H : (if y361.length + l0.length < 3518437208883 then (some (y361 ++ l0)) else (none)) = some r := by have hy_ := hy361; exact xH
  have Ny361 := zK hy361
  clear hy361
  by_cases c2 : y361.length + l0.length < 3518437208883
  ·rw [if_pos c2] at H
   have LMc2 := zK c2
   clear c2
   obtain ⟨y364, hy364⟩ : ∃ y_ : List (S47), y_ = (y361 ++ l0) := ⟨_, rfl⟩
   replace H : (some y364) = some r := by have hy_ := hy364; exact xH
   have Ny364 := zK hy364
   clear hy364
   obtain rfl := Option.some.inj H
   have hnil := fun W : World => Lib.run_eql_slice_nil (P := Try.prog) W 24 47 (some ad) l0.length c0 0 0 Try.underlying24
   simp only [Option.isNone_some] at hnil
   go_enter Try.func58, Try.ntmps58
   go_wp2_with (first | ((with_reducible refine gate_dst (N := 5) rfl ?_); refine Kd.R_lit k47 _ 47 ?hg (N := 5) ?hd (xs := ([] : List (S47))) (inner := []) (ok := fun _ => True) (okp := fun _ => True) ?hr ?hp (fun _ hk => hk) trivial (Below.refl _ _) (Nat.le_refl _) ye1 ?_; (case hd | hg => rfl); (case hr => exact xxa); (case hp => exact (Reps.none _ _)); intro v362 w3 ho4 hb hg_ hnew_; clear hg_ hnew_; (first | rw [← Ny361.out] at ho4 | (simp only [Int.reduceToNat] at ho4; rw [← Ny361.out] at ho4)); have n0_ := zK (Kd.R_lower ho4 (zN ya)); have n1_ := zK (zL ya hb); clear HB; have HO363 := n0_; have HB := n1_; clear n0_ n1_; clear hb ho4) | ((with_reducible refine gate_builtin (b := .append) (xs := #[.tmp 5, .tmp 6]) rfl ?_); at_builtin; refine Kd.R_append_rows k47 (w0 := w) w.heap.size rfl (.tmp 5) (.tmp 6) 24 47 (.agg #[(.string ⟨#[]⟩), (.int .i64 0), (.int .i64 0), (.int .i64 0)]) 40 rfl Try.underlying24 info47 rfl yp1 (by omega) v362 y361 l0 _ _ _ (fun _ => True) (fun _ => False) rfl rfl ?aO ?aR (fun _ _ h => h) (fun _ h => h.elim) ?aF ?aB ?aS ?aL ?_; (case aR => exact xxd); (case aB => exact ya); (case aF => exact (fun _ _ => trivial)); (case aO => exact (yR HO363.out)); (case aS => exact (zN ya)); (case aL => have := LMc2.out; omega); intro v365 w5 ho hb hg hat; rw [← Ny364.out] at ho; have n0_ := zK (hb); have n1_ := zK (ho); clear HB; clear HO363; have HB := n0_; have HO366 := n1_; clear n0_ n1_; clear ho hb hg hat))
   go_ret
   exact ⟨_, yd, yR HO366.out, ya⟩
  ·rw [if_neg c2] at H
   exact absurd H ye1

end Go.Proofs.Ytlcplhcccgbmnaa.D
