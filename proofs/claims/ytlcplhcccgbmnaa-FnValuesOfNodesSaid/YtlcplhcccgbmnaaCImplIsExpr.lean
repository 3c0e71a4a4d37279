/- Contracts: impl_IsExpr, impl_areRight, impl_bit, impl_apply, impl_values, impl_eval, impl_EvalExpr, spec_l1Cur_next, spec_l1Cur_pick. -/
import Derived.Test.YtlcplhcccgbmnaaCK
import Derived.Test.YtlcplhcccgbmnaaCLawsBig
namespace Go.Proofs.Ytlcplhcccgbmnaa.C
open Go.RowKit Go.Proofs.YtlcplhcccgbmnaaW.PrintWords Go.Proofs.YtlcplhcccgbmnaaW.PrintLast Go.Proofs.YtlcplhcccgbmnaaW.PrintMore
attribute [local go_sem] max2_int min2_int max_two min_two max_three min_three max_four min_four   -- for this text's walks alone
set_option linter.unusedVariables false
set_option linter.unusedSimpArgs false

/-! ### impl_IsExpr: function 20 -/
def impl_IsExpr.l0 : Nat → List (S47) → List (S47) → Int → Int → Option (Bool)
 | 0, _, _, _, _ => none
 | k + 1, x0, x9, x10, x11 => if x11 < x10 then (if 0 ≤ x11 then (if x11 < (x9.length : Int) then ((impl_Node_isNode.f k ((rd_T47 x9 x11).f0) ((rd_T47 x9 x11).f1) ((rd_T47 x9 x11).f2) ((rd_T47 x9 x11).f3) x11).bind fun t146 => (if t146 = true then (impl_IsExpr.l0 k x0 x9 x10 (wrap64 (x11 + 1))) else (some false))) else (none)) else (none)) else ((impl_uses.f k x0).bind fun t147 => (if 0 ≤ (wrap64 ((x0.length : Int) - 1)) then (if (wrap64 ((x0.length : Int) - 1)) ≤ (t147.length : Int) then ((slices_Contains_int_int.f k (t147.take ((wrap64 ((x0.length : Int) - 1)) : Int).toNat) 0).bind fun t154 => (some (!t154))) else (none)) else (none)))
def impl_IsExpr.f (k : Nat) (l0 : List (S47)) : Option (Bool) := (impl_within.f (l0.length : Int) 1 24).bind fun t143 => (if t143 = true then (impl_IsExpr.l0 k l0 l0 (l0.length : Int) 0) else (some false))
theorem impl_IsExpr.mono_l : ∀ k, (∀ y0 y1 y2 y3, LeO (impl_IsExpr.l0 k y0 y1 y2 y3) (impl_IsExpr.l0 (k + 1) y0 y1 y2 y3))
 | 0 => fun _ _ _ _ r h => by simp [impl_IsExpr.l0] at h
 | k + 1 => by
  have ih0 := impl_IsExpr.mono_l k
  ·intro y0 y1 y2 y3
   unfold impl_IsExpr.l0
   repeat' first
   | (with_reducible exact ih0 _ _ _ _)
   | (with_reducible exact impl_Node_isNode.mono _ _ _ _ _ _)
   | (with_reducible exact impl_uses.mono _ _)
   | (with_reducible exact slices_Contains_int_int.mono _ _ _)
   | (with_reducible exact LeO.refl _)
   | (with_reducible exact LeO.none _)
   | (with_reducible refine LeO.ite ?_ ?_)
   | (with_reducible refine LeO.bind ?_ (fun _ => ?_))
   | exact ih0 _ _ _ _
   | exact impl_Node_isNode.mono _ _ _ _ _ _
   | exact impl_uses.mono _ _
   | exact slices_Contains_int_int.mono _ _ _
   | exact LeO.none _
   | refine LeO.ite ?_ ?_
   | refine LeO.bind ?_ (fun _ => ?_)
theorem impl_IsExpr.mono : ∀ a0 k, LeO (impl_IsExpr.f k a0) (impl_IsExpr.f (k + 1) a0) := by
 intro a0 k
 have ih0 := impl_IsExpr.mono_l k
 unfold impl_IsExpr.f
 repeat' first
   | (with_reducible exact ih0 _ _ _ _)
   | (with_reducible exact impl_Node_isNode.mono _ _ _ _ _ _)
   | (with_reducible exact impl_uses.mono _ _)
   | (with_reducible exact slices_Contains_int_int.mono _ _ _)
   | (with_reducible exact LeO.refl _)
   | (with_reducible exact LeO.none _)
   | (with_reducible refine LeO.ite ?_ ?_)
   | (with_reducible refine LeO.bind ?_ (fun _ => ?_))
   | exact ih0 _ _ _ _
   | exact impl_Node_isNode.mono _ _ _ _ _ _
   | exact impl_uses.mono _ _
   | exact slices_Contains_int_int.mono _ _ _
   | exact LeO.none _
   | refine LeO.ite ?_ ?_
   | refine LeO.bind ?_ (fun _ => ?_)
set_option maxHeartbeats 8000000 in
set_option maxRecDepth 100000 in
theorem impl_IsExpr.calls (k : Nat) (A0 : Option Addr) (c0 : Nat) (l0 : List (S47)) (r : Bool) (w : World) (hr0 : Kd.C k47 w A0 l0.length l0) (hc0 : l0.length ≤ c0) (h : impl_IsExpr.f k l0 = some r) :
  Calls Try.prog 20 #[.slice A0 l0.length c0] w fun e w' => e = .returned (.bool r) ∧ Below w.heap.size w w' := by
 have hu47 := Try.underlying47
 have HR0 := zK hr0
 have HC0 := zK hc0
 clear hr0 hc0
 have HB := zK (Below.refl w.heap.size w)
 have H : ((impl_within.f (l0.length : Int) 1 24).bind fun t143 => (if t143 = true then (impl_IsExpr.l0 k l0 l0 (l0.length : Int) 0) else (some false))) = some r := h
 clear h
 replace H := Option.bind_eq_some_iff.mp H
 obtain ⟨t143, A20, H⟩ := H
 replace H : (if t143 = true then (impl_IsExpr.l0 k l0 l0 (l0.length : Int) 0) else (some false)) = some r := H
 have A2 := zK A20
 clear A20
 by_cases c3 : t143 = true
 ·subst c3
  have H1 : (impl_IsExpr.l0 k l0 l0 (l0.length : Int) 0) = some r := by rw [if_pos rfl] at H; exact H
  clear H
  have H := H1
  clear H1
  have H' := zK H
  clear H
  go_enter Try.func20, Try.ntmps20
  go_wp2_with (first | ((with_reducible refine gate_callee (f := 56) rfl ?_); refine goesL_ (some 7) rfl rfl Try.func56 (by kernel_rfl) rfl #[.int .i64 (l0.length : Int), .int .i64 1, .int .i64 24] rfl (by (try simp only [z6, z7, z8]); first | done | rfl | (simp only [z4, z5]; rfl)) ?_; (with_reducible refine (impl_within.calls (l0.length : Int) 1 24 true _ A2.out).mono ?_); rintro e w' ⟨rfl, ⟨nd, rfl⟩⟩; refine ⟨_, rfl, ?_⟩))
  go_loopg [11] k (fun kq v11 w' => ∃ (x11_1 : Int), v11 = .int .i64 x11_1 ∧ Aside0 (impl_IsExpr.l0 kq l0 l0 (l0.length : Int) x11_1 = some r) ∧ Aside0 (kq ≤ k) ∧ Aside0 (Below w.heap.size w w'))
  case atStart => exact ⟨(0), (by first | rfl | (simp; done) | (simp [*]; done)), H', ⟨Nat.le_refl _⟩, ⟨by repeat (first | (with_reducible first | exact HB.out | apply zA | apply zB | apply zC) | exact HB.out)⟩⟩
  case round =>
   clear H'
   try clear c2
   try clear p2
   try clear c3
   obtain ⟨x11_1, rfl, HA, HK1, HB⟩ := hrel
   cases gk with
   | zero => exact absurd HA.out (by simp [impl_IsExpr.l0])
   | succ k1 =>
    have H := HA.out
    clear HA
    simp only [impl_IsExpr.l0] at H
    by_cases c4 : x11_1 < (l0.length : Int)
    ·rw [if_pos c4] at H
     have c4b0 : decide (x11_1 < (l0.length : Int)) = true := decide_eq_true c4
     clear c4
     by_cases c5 : 0 ≤ x11_1
     ·rw [if_pos c5] at H
      have c5b0 : decide (0 ≤ x11_1) = true := decide_eq_true c5
      clear c5
      by_cases c6 : x11_1 < (l0.length : Int)
      ·rw [if_pos c6] at H
       have c6b0 : decide (x11_1 < (l0.length : Int)) = true := decide_eq_true c6
       clear c6
       replace H := Option.bind_eq_some_iff.mp H
       obtain ⟨t146, A70, H⟩ := H
       replace H : (if t146 = true then (impl_IsExpr.l0 k1 l0 l0 (l0.length : Int) (wrap64 (x11_1 + 1))) else (some false)) = some r := H
       have A7 := zK A70
       clear A70
       by_cases c8 : t146 = true
       ·subst c8
        have H1 : (impl_IsExpr.l0 k1 l0 l0 (l0.length : Int) (wrap64 (x11_1 + 1))) = some r := by rw [if_pos rfl] at H; exact H
        clear H
        have H := H1
        clear H1
        have H' := zK H
        clear H
        have p144 : 0 ≤ (x11_1 : Int) := zo
        have q144 : x11_1 < (l0.length : Int) := zo
        obtain ⟨ad144, e144, hx144_0, hx144_1, hx144_2, hx144_3⟩ := at_T47 HR0.out x11_1 p144 q144
        cases e144
        replace hx144_0 := zt HB.out hx144_0
        replace hx144_1 := zt HB.out hx144_1
        replace hx144_2 := zt HB.out hx144_2
        replace hx144_3 := zt HB.out hx144_3
        replace p144 := eq_true p144
        replace q144 := eq_true q144
        go_wp2_with (first | ((with_reducible refine gate_dst (N := 4) rfl ?_); refine box_event ?hg (N := 4) ?hd (cs := #[.string (⟨#[]⟩ : ByteArray), .int .i64 0, .int .i64 0, .int .i64 0]) (t := 47) ?hr ?_; (case hd => rfl); (case hg => rfl); (case hr => first | (go_simp; done) | (go_simp; rfl)); intro gb145 hg w9 hbox hb; have n0_ := zK (zL (by repeat (first | (with_reducible first | exact HB.out | apply zA | apply zB | apply zC) | exact HB.out)) hb); have n1_ := zK (hbox); have n2_ := zK ((by rw [hg]; exact (zN (by repeat (first | (with_reducible first | exact HB.out | apply zA | apply zB | apply zC) | exact HB.out))) : w.heap.size ≤ gb145)); have n3_ := zK ((by rw [hg]; exact (zN (by repeat (first | (with_reducible first | exact HB.out | apply zA | apply zB | apply zC) | exact HB.out))) : w.heap.size ≤ gb145)); clear HB; have HB := n0_; have BK145 := n1_; have GW145 := n2_; have GE145 := n3_; clear n0_ n1_ n2_ n3_; clear hb hbox hg; have hcz10_0 : w9.cell? ⟨gb145, 0, none⟩ = some (.string (⟨#[]⟩ : ByteArray)) := (zI BK145.out 0).trans rfl; have hcz10_1 : w9.cell? ⟨gb145, 1, none⟩ = some (.int .i64 0) := (zI BK145.out 1).trans rfl; have hcz10_2 : w9.cell? ⟨gb145, 2, none⟩ = some (.int .i64 0) := (zI BK145.out 2).trans rfl; have hcz10_3 : w9.cell? ⟨gb145, 3, none⟩ = some (.int .i64 0) := (zI BK145.out 3).trans rfl; have hfz10_0 := zH BK145.out 0; have hfz10_1 := zH BK145.out 1; have hfz10_2 := zH BK145.out 2; have hfz10_3 := zH BK145.out 3) | ((with_reducible refine gate_callee (f := 70) rfl ?_); refine goesL_ (some 18) rfl rfl Try.func70 (by kernel_rfl) rfl #[.agg #[.string ((rd_T47 l0 x11_1).f0), .int .i64 ((rd_T47 l0 x11_1).f1), .int .i64 ((rd_T47 l0 x11_1).f2), .int .i64 ((rd_T47 l0 x11_1).f3)], .int .i64 x11_1] rfl (by (try simp only [z6, z7, z8]); first | done | rfl | (simp only [z4, z5]; rfl)) ?_; (with_reducible refine (impl_Node_isNode.calls k1 ((rd_T47 l0 x11_1).f0) ((rd_T47 l0 x11_1).f1) ((rd_T47 l0 x11_1).f2) ((rd_T47 l0 x11_1).f3) x11_1 true _ A7.out).mono ?_); rintro e w11 ⟨rfl, hb⟩; refine ⟨_, rfl, ?_⟩; have n0_ := zK (zM (g := gb145) (o := .cells #[.string ((rd_T47 l0 x11_1).f0), .int .i64 ((rd_T47 l0 x11_1).f1), .int .i64 ((rd_T47 l0 x11_1).f2), .int .i64 ((rd_T47 l0 x11_1).f3)] 47 (0, 0)) (by (with_reducible repeat (first | refine zE ?_ _ | refine zF ?_ | refine zG ?_ _)); refine blk_put (cs := #[.string ((rd_T47 l0 x11_1).f0), .int .i64 ((rd_T47 l0 x11_1).f1), .int .i64 ((rd_T47 l0 x11_1).f2), .int .i64 0]) ?_ 3 _ rfl; (with_reducible repeat (first | refine zE ?_ _ | refine zF ?_ | refine zG ?_ _)); refine blk_put (cs := #[.string ((rd_T47 l0 x11_1).f0), .int .i64 ((rd_T47 l0 x11_1).f1), .int .i64 0, .int .i64 0]) ?_ 2 _ rfl; (with_reducible repeat (first | refine zE ?_ _ | refine zF ?_ | refine zG ?_ _)); refine blk_put (cs := #[.string ((rd_T47 l0 x11_1).f0), .int .i64 0, .int .i64 0, .int .i64 0]) ?_ 1 _ rfl; (with_reducible repeat (first | refine zE ?_ _ | refine zF ?_ | refine zG ?_ _)); refine blk_put (cs := #[.string (⟨#[]⟩ : ByteArray), .int .i64 0, .int .i64 0, .int .i64 0]) ?_ 0 _ rfl; (with_reducible repeat (first | refine zE ?_ _ | refine zF ?_ | refine zG ?_ _)); exact BK145.out) hb); have n1_ := zK (zL (by repeat (first | (with_reducible first | exact HB.out | apply zA | apply zB | apply zC | refine zD ?_ GE145.out) | exact HB.out)) hb); clear BK145; clear HB; have BK145 := n0_; have HB := n1_; clear n0_ n1_; (try clear hb); (try clear hb2); (try clear hk); (try clear hi)))
        go_roundg k1
        case measure => have := HK1.out; omega
        case rel => exact ⟨(wrap64 (x11_1 + 1)), (by first | rfl | (simp; done) | (simp [*]; done)), H', ⟨by have := HK1.out; omega⟩, ⟨by repeat (first | (with_reducible first | exact HB.out | apply zA | apply zB | apply zC | refine zD ?_ GE145.out) | exact HB.out)⟩⟩
       ·replace c8 := Bool.eq_false_iff.mpr c8
        subst c8
        have H1 : (some false) = some r := by rw [if_neg (show ¬ (false = true) by decide)] at H; exact H
        clear H
        have H := H1
        clear H1
        obtain rfl := Option.some.inj H
        have p144 : 0 ≤ (x11_1 : Int) := zo
        have q144 : x11_1 < (l0.length : Int) := zo
        obtain ⟨ad144, e144, hx144_0, hx144_1, hx144_2, hx144_3⟩ := at_T47 HR0.out x11_1 p144 q144
        cases e144
        replace hx144_0 := zt HB.out hx144_0
        replace hx144_1 := zt HB.out hx144_1
        replace hx144_2 := zt HB.out hx144_2
        replace hx144_3 := zt HB.out hx144_3
        replace p144 := eq_true p144
        replace q144 := eq_true q144
        go_wp2_with (first | ((with_reducible refine gate_dst (N := 4) rfl ?_); refine box_event ?hg (N := 4) ?hd (cs := #[.string (⟨#[]⟩ : ByteArray), .int .i64 0, .int .i64 0, .int .i64 0]) (t := 47) ?hr ?_; (case hd => rfl); (case hg => rfl); (case hr => first | (go_simp; done) | (go_simp; rfl)); intro gb145 hg w12 hbox hb; have n0_ := zK (zL (by repeat (first | (with_reducible first | exact HB.out | apply zA | apply zB | apply zC) | exact HB.out)) hb); have n1_ := zK (hbox); have n2_ := zK ((by rw [hg]; exact (zN (by repeat (first | (with_reducible first | exact HB.out | apply zA | apply zB | apply zC) | exact HB.out))) : w.heap.size ≤ gb145)); have n3_ := zK ((by rw [hg]; exact (zN (by repeat (first | (with_reducible first | exact HB.out | apply zA | apply zB | apply zC) | exact HB.out))) : w.heap.size ≤ gb145)); clear HB; have HB := n0_; have BK145 := n1_; have GW145 := n2_; have GE145 := n3_; clear n0_ n1_ n2_ n3_; clear hb hbox hg; have hcz13_0 : w12.cell? ⟨gb145, 0, none⟩ = some (.string (⟨#[]⟩ : ByteArray)) := (zI BK145.out 0).trans rfl; have hcz13_1 : w12.cell? ⟨gb145, 1, none⟩ = some (.int .i64 0) := (zI BK145.out 1).trans rfl; have hcz13_2 : w12.cell? ⟨gb145, 2, none⟩ = some (.int .i64 0) := (zI BK145.out 2).trans rfl; have hcz13_3 : w12.cell? ⟨gb145, 3, none⟩ = some (.int .i64 0) := (zI BK145.out 3).trans rfl; have hfz13_0 := zH BK145.out 0; have hfz13_1 := zH BK145.out 1; have hfz13_2 := zH BK145.out 2; have hfz13_3 := zH BK145.out 3) | ((with_reducible refine gate_callee (f := 70) rfl ?_); refine goesL_ (some 18) rfl rfl Try.func70 (by kernel_rfl) rfl #[.agg #[.string ((rd_T47 l0 x11_1).f0), .int .i64 ((rd_T47 l0 x11_1).f1), .int .i64 ((rd_T47 l0 x11_1).f2), .int .i64 ((rd_T47 l0 x11_1).f3)], .int .i64 x11_1] rfl (by (try simp only [z6, z7, z8]); first | done | rfl | (simp only [z4, z5]; rfl)) ?_; (with_reducible refine (impl_Node_isNode.calls k1 ((rd_T47 l0 x11_1).f0) ((rd_T47 l0 x11_1).f1) ((rd_T47 l0 x11_1).f2) ((rd_T47 l0 x11_1).f3) x11_1 false _ A7.out).mono ?_); rintro e w14 ⟨rfl, hb⟩; refine ⟨_, rfl, ?_⟩; have n0_ := zK (zM (g := gb145) (o := .cells #[.string ((rd_T47 l0 x11_1).f0), .int .i64 ((rd_T47 l0 x11_1).f1), .int .i64 ((rd_T47 l0 x11_1).f2), .int .i64 ((rd_T47 l0 x11_1).f3)] 47 (0, 0)) (by (with_reducible repeat (first | refine zE ?_ _ | refine zF ?_ | refine zG ?_ _)); refine blk_put (cs := #[.string ((rd_T47 l0 x11_1).f0), .int .i64 ((rd_T47 l0 x11_1).f1), .int .i64 ((rd_T47 l0 x11_1).f2), .int .i64 0]) ?_ 3 _ rfl; (with_reducible repeat (first | refine zE ?_ _ | refine zF ?_ | refine zG ?_ _)); refine blk_put (cs := #[.string ((rd_T47 l0 x11_1).f0), .int .i64 ((rd_T47 l0 x11_1).f1), .int .i64 0, .int .i64 0]) ?_ 2 _ rfl; (with_reducible repeat (first | refine zE ?_ _ | refine zF ?_ | refine zG ?_ _)); refine blk_put (cs := #[.string ((rd_T47 l0 x11_1).f0), .int .i64 0, .int .i64 0, .int .i64 0]) ?_ 1 _ rfl; (with_reducible repeat (first | refine zE ?_ _ | refine zF ?_ | refine zG ?_ _)); refine blk_put (cs := #[.string (⟨#[]⟩ : ByteArray), .int .i64 0, .int .i64 0, .int .i64 0]) ?_ 0 _ rfl; (with_reducible repeat (first | refine zE ?_ _ | refine zF ?_ | refine zG ?_ _)); exact BK145.out) hb); have n1_ := zK (zL (by repeat (first | (with_reducible first | exact HB.out | apply zA | apply zB | apply zC | refine zD ?_ GE145.out) | exact HB.out)) hb); clear BK145; clear HB; have BK145 := n0_; have HB := n1_; clear n0_ n1_; (try clear hb); (try clear hb2); (try clear hk); (try clear hi)))
        go_ret
        exact ⟨by first | rfl | (simp [errW_none, errW_some] <;> rfl) | (simp [*, errW_none, errW_some] <;> rfl), by repeat (first | (with_reducible first | exact HB.out | apply zA | apply zB | apply zC | refine zD ?_ GE145.out) | exact HB.out)⟩
      ·rw [if_neg c6] at H
       exact absurd H (by simp)
     ·rw [if_neg c5] at H
      exact absurd H (by simp)
    ·rw [if_neg c4] at H
     have c4b0 : decide (x11_1 < (l0.length : Int)) = false := decide_eq_false c4
     clear c4
     replace H := Option.bind_eq_some_iff.mp H
     obtain ⟨t147, A150, H⟩ := H
     replace H : (if 0 ≤ (wrap64 ((l0.length : Int) - 1)) then (if (wrap64 ((l0.length : Int) - 1)) ≤ (t147.length : Int) then ((slices_Contains_int_int.f k1 (t147.take ((wrap64 ((l0.length : Int) - 1)) : Int).toNat) 0).bind fun t154 => (some (!t154))) else (none)) else (none)) = some r := H
     have A15 := zK A150
     clear A150
     obtain ⟨ji16, hji16⟩ : ∃ j_ : Int, (wrap64 ((l0.length : Int) - 1)) = j_ := ⟨_, rfl⟩
     replace H : (if 0 ≤ (ji16) then (if (ji16) ≤ (t147.length : Int) then ((slices_Contains_int_int.f k1 (t147.take ((ji16) : Int).toNat) 0).bind fun t154 => (some (!t154))) else (none)) else (none)) = some r := by first | (rw [hji16] at H; exact H) | (simp only [hji16] at H ⊢; exact H)
     (try rw [hji16] at A15)
     have hji16w : (IntKind.i64.wrap ((l0.length : Int) - 1)) = ji16 := (i64_w _).trans hji16
     by_cases c17 : 0 ≤ (ji16)
     ·rw [if_pos c17] at H
      have c17b0 := eq_true c17
      have c17b1 : decide (0 ≤ (ji16)) = true := decide_eq_true c17
      clear c17
      by_cases c18 : (ji16) ≤ (t147.length : Int)
      ·rw [if_pos c18] at H
       have c18b0 := eq_true c18
       have c18b1 : decide ((ji16) ≤ (t147.length : Int)) = true := decide_eq_true c18
       clear c18
       obtain ⟨y150, hy150⟩ : ∃ y_ : List Int, y_ = (t147.take ((ji16) : Int).toNat) := ⟨_, rfl⟩
       replace H : ((slices_Contains_int_int.f k1 y150 0).bind fun t154 => (some (!t154))) = some r := by first | (rw [hy150]; with_reducible exact H) | (have H2_ := (Option.bind_some _ _).symm.trans H; rw [hy150]; with_reducible exact H2_) | (have H2_ := (Option.bind_some _ _).symm.trans H; with_reducible exact H2_) | with_reducible exact H | (rw [hy150]; exact H) | exact H
       have Ny150 := zK hy150
       clear hy150
       replace H := Option.bind_eq_some_iff.mp H
       obtain ⟨t154, A190, H⟩ := H
       replace H : (some (!t154)) = some r := H
       have A19 := zK A190
       clear A190
       obtain rfl := Option.some.inj H
       go_wp2_with (first | ((with_reducible refine gate_callee (f := 64) rfl ?_); refine goesL_ (some 22) rfl rfl Try.func64 (by kernel_rfl) rfl #[.slice A0 l0.length c0] rfl (by (try simp only [z6, z7, z8]); first | done | rfl | (simp only [z4, z5]; rfl)) ?_; (with_reducible refine (impl_uses.calls k1 _ _ l0 t147 _ ?side1 ?side2 A15.out).mono ?_); (case side1 => repeat (first | exact (Kd.C_below HR0.out HB.out) | (with_reducible refine Kd.C_alloc ?_ _) | (with_reducible refine Kd.C_drewN ?_ _) | (with_reducible refine Kd.C_drew ?_))); (case side2 => exact HC0.out); rintro e w20 ⟨v148, rfl, ho0, hb⟩; refine ⟨_, rfl, ?_⟩; have n0_ := zK (Kd.R_lower ho0 (zN (by repeat (first | (with_reducible first | exact HB.out | apply zA | apply zB | apply zC) | exact HB.out)))); have n1_ := zK (zL (by repeat (first | (with_reducible first | exact HB.out | apply zA | apply zB | apply zC) | exact HB.out)) hb); clear HB; have HO149 := n0_; have HB := n1_; clear n0_ n1_; (try clear hb); (try clear hb2); (try clear hk); (try clear hi); (try clear ho0); obtain ⟨Ao22, co22, eo22⟩ := Kd.R_slice HO149.out; subst eo22; have q21 : ((ji16) : Int) ≤ ((t147.length : Int) : Int) := zo; obtain ⟨i021, hi021, _, hsz21, _⟩ := info_parts info3; have hroom21 : t147.length ≤ co22 := (Kd.R_reads' HO149.out).2.1; have hC21 : Kd.C (Kd.int .i64) _ Ao22 t147.length t147 := (Kd.R_reads' HO149.out).2.2; have hcut21 := cut_to (P := Try.prog) 31 3 .i64 Try.underlying31 hi021 Ao22 t147.length co22 (ji16) (zo) q21 hroom21; have hr21 := Kd.C_take (m := ((ji16) : Int).toNat) hC21 (by omega); have hy21 : y150.length = ((ji16) : Int).toNat := (by rw [Ny150.out, z5]; omega); rw [← Ny150.out] at hr21; rw [← hy21] at hcut21; have HR153 := zK hr21; have HC153 := zK (show y150.length ≤ co22 from by omega); clear hr21 hC21 hroom21 hi021 hsz21; have KY21 := zK hy21; clear hy21; have KL21 := zK (show ((ji16) : Int).toNat ≤ t147.length from by omega); replace q21 := eq_true q21) | ((with_reducible refine gate_callee (f := 71) rfl ?_); refine goesL_ (some 27) rfl rfl Try.func71 (by kernel_rfl) rfl #[.slice Ao22 y150.length co22, .int .i64 0] rfl (by (try simp only [z6, z7, z8]); first | done | rfl | (simp only [z4, z5]; rfl)) ?_; (with_reducible refine (slices_Contains_int_int.calls k1 _ _ y150 0 t154 _ ?side1 ?side2 A19.out).mono ?_); (case side1 => repeat (first | exact (by repeat (first | (with_reducible exact HR153.out) | (with_reducible refine Kd.C_alloc ?_ _) | (with_reducible refine Kd.C_drewN ?_ _) | (with_reducible refine Kd.C_drew ?_) | exact HR153.out)) | (with_reducible refine Kd.C_alloc ?_ _) | (with_reducible refine Kd.C_drewN ?_ _) | (with_reducible refine Kd.C_drew ?_))); (case side2 => exact HC153.out); rintro e w' ⟨rfl, ⟨nd, rfl⟩⟩; refine ⟨_, rfl, ?_⟩))
       go_ret
       exact ⟨by first | rfl | (simp [errW_none, errW_some] <;> rfl) | (simp only [← hji16]; first | rfl | (simp [errW_none, errW_some] <;> rfl)) | (simp [*, errW_none, errW_some] <;> rfl), by repeat (first | (with_reducible first | exact HB.out | apply zA | apply zB | apply zC) | exact HB.out)⟩
      ·rw [if_neg c18] at H
       exact absurd H (by simp)
     ·rw [if_neg c17] at H
      exact absurd H (by simp)
 ·replace c3 := Bool.eq_false_iff.mpr c3
  subst c3
  have H1 : (some false) = some r := by rw [if_neg (show ¬ (false = true) by decide)] at H; exact H
  clear H
  have H := H1
  clear H1
  obtain rfl := Option.some.inj H
  go_enter Try.func20, Try.ntmps20
  go_wp2_with (first | ((with_reducible refine gate_callee (f := 56) rfl ?_); refine goesL_ (some 7) rfl rfl Try.func56 (by kernel_rfl) rfl #[.int .i64 (l0.length : Int), .int .i64 1, .int .i64 24] rfl (by (try simp only [z6, z7, z8]); first | done | rfl | (simp only [z4, z5]; rfl)) ?_; (with_reducible refine (impl_within.calls (l0.length : Int) 1 24 false _ A2.out).mono ?_); rintro e w' ⟨rfl, ⟨nd, rfl⟩⟩; refine ⟨_, rfl, ?_⟩))
  go_ret
  exact ⟨by first | rfl | (simp [errW_none, errW_some] <;> rfl) | (simp [*, errW_none, errW_some] <;> rfl), by repeat (first | (with_reducible first | exact HB.out | apply zA | apply zB | apply zC) | exact HB.out)⟩

/-! ### impl_areRight: function 68 -/
def impl_areRight.f (k : Nat) (l0 : List (S47)) (a1 : Int) (a2 : Int) : Option (Bool) := (impl_IsExpr.f k l0).bind fun t155 => (if t155 = true then ((impl_isWord.f a1).bind fun t156 => (if t156 = true then ((impl_isWord.f a2).bind fun t157 => (some t157)) else (some false))) else (some false))
theorem impl_areRight.mono : ∀ a0 a1 a2 k, LeO (impl_areRight.f k a0 a1 a2) (impl_areRight.f (k + 1) a0 a1 a2) := by
 intro a0 a1 a2 k
 unfold impl_areRight.f
 repeat' first
   | (with_reducible exact impl_IsExpr.mono _ _)
   | (with_reducible exact LeO.refl _)
   | (with_reducible exact LeO.none _)
   | (with_reducible refine LeO.ite ?_ ?_)
   | (with_reducible refine LeO.bind ?_ (fun _ => ?_))
   | exact impl_IsExpr.mono _ _
   | exact LeO.none _
   | refine LeO.ite ?_ ?_
   | refine LeO.bind ?_ (fun _ => ?_)
set_option maxHeartbeats 8000000 in
set_option maxRecDepth 100000 in
theorem impl_areRight.calls (k : Nat) (A0 : Option Addr) (c0 : Nat) (l0 : List (S47)) (a1 : Int) (a2 : Int) (r : Bool) (w : World) (hr0 : Kd.C k47 w A0 l0.length l0) (hc0 : l0.length ≤ c0) (h : impl_areRight.f k l0 a1 a2 = some r) :
  Calls Try.prog 68 #[.slice A0 l0.length c0, .int .i64 a1, .int .i64 a2] w fun e w' => e = .returned (.bool r) ∧ Below w.heap.size w w' := by
 have HR0 := zK hr0
 have HC0 := zK hc0
 clear hr0 hc0
 have HB := zK (Below.refl w.heap.size w)
 have H : ((impl_IsExpr.f k l0).bind fun t155 => (if t155 = true then ((impl_isWord.f a1).bind fun t156 => (if t156 = true then ((impl_isWord.f a2).bind fun t157 => (some t157)) else (some false))) else (some false))) = some r := h
 clear h
 replace H := Option.bind_eq_some_iff.mp H
 obtain ⟨t155, A40, H⟩ := H
 replace H : (if t155 = true then ((impl_isWord.f a1).bind fun t156 => (if t156 = true then ((impl_isWord.f a2).bind fun t157 => (some t157)) else (some false))) else (some false)) = some r := H
 have A4 := zK A40
 clear A40
 by_cases c5 : t155 = true
 ·subst c5
  have H1 : ((impl_isWord.f a1).bind fun t156 => (if t156 = true then ((impl_isWord.f a2).bind fun t157 => (some t157)) else (some false))) = some r := by rw [if_pos rfl] at H; exact H
  clear H
  have H := H1
  clear H1
  replace H := Option.bind_eq_some_iff.mp H
  obtain ⟨t156, A60, H⟩ := H
  replace H : (if t156 = true then ((impl_isWord.f a2).bind fun t157 => (some t157)) else (some false)) = some r := H
  have A6 := zK A60
  clear A60
  by_cases c7 : t156 = true
  ·subst c7
   have H1 : ((impl_isWord.f a2).bind fun t157 => (some t157)) = some r := by rw [if_pos rfl] at H; exact H
   clear H
   have H := H1
   clear H1
   replace H := Option.bind_eq_some_iff.mp H
   obtain ⟨t157, A80, H⟩ := H
   replace H : (some t157) = some r := H
   have A8 := zK A80
   clear A80
   obtain rfl := Option.some.inj H
   go_enter Try.func68, Try.ntmps68
   go_wp2_with (first | ((with_reducible refine gate_callee (f := 20) rfl ?_); refine goesL_ (some 8) rfl rfl Try.func20 (by kernel_rfl) rfl #[.slice A0 l0.length c0] rfl (by (try simp only [z6, z7, z8]); first | done | rfl | (simp only [z4, z5]; rfl)) ?_; (with_reducible refine (impl_IsExpr.calls k _ _ l0 true _ ?side1 ?side2 A4.out).mono ?_); (case side1 => repeat (first | exact HR0.out | (with_reducible refine Kd.C_alloc ?_ _) | (with_reducible refine Kd.C_drewN ?_ _) | (with_reducible refine Kd.C_drew ?_))); (case side2 => exact HC0.out); rintro e w9 ⟨rfl, hb⟩; refine ⟨_, rfl, ?_⟩; have n0_ := zK (zL (by repeat (first | (with_reducible first | exact HB.out | apply zA | apply zB | apply zC) | exact HB.out)) hb); clear HB; have HB := n0_; clear n0_; (try clear hb); (try clear hb2); (try clear hk); (try clear hi)) | (go_at_call 84; (with_reducible refine (impl_isWord.calls a1 true _ A6.out).mono ?_); rintro e w' ⟨rfl, ⟨nd, rfl⟩⟩) | (go_at_call 84; (with_reducible refine (impl_isWord.calls a2 t157 _ A8.out).mono ?_); rintro e w' ⟨rfl, ⟨nd, rfl⟩⟩))
   go_ret
   exact ⟨by first | rfl | (simp [errW_none, errW_some] <;> rfl) | (simp [*, errW_none, errW_some] <;> rfl), by repeat (first | (with_reducible first | exact HB.out | apply zA | apply zB | apply zC) | exact HB.out)⟩
  ·replace c7 := Bool.eq_false_iff.mpr c7
   subst c7
   have H1 : (some false) = some r := by rw [if_neg (show ¬ (false = true) by decide)] at H; exact H
   clear H
   have H := H1
   clear H1
   obtain rfl := Option.some.inj H
   go_enter Try.func68, Try.ntmps68
   go_wp2_with (first | ((with_reducible refine gate_callee (f := 20) rfl ?_); refine goesL_ (some 8) rfl rfl Try.func20 (by kernel_rfl) rfl #[.slice A0 l0.length c0] rfl (by (try simp only [z6, z7, z8]); first | done | rfl | (simp only [z4, z5]; rfl)) ?_; (with_reducible refine (impl_IsExpr.calls k _ _ l0 true _ ?side1 ?side2 A4.out).mono ?_); (case side1 => repeat (first | exact HR0.out | (with_reducible refine Kd.C_alloc ?_ _) | (with_reducible refine Kd.C_drewN ?_ _) | (with_reducible refine Kd.C_drew ?_))); (case side2 => exact HC0.out); rintro e w10 ⟨rfl, hb⟩; refine ⟨_, rfl, ?_⟩; have n0_ := zK (zL (by repeat (first | (with_reducible first | exact HB.out | apply zA | apply zB | apply zC) | exact HB.out)) hb); clear HB; have HB := n0_; clear n0_; (try clear hb); (try clear hb2); (try clear hk); (try clear hi)) | (go_at_call 84; (with_reducible refine (impl_isWord.calls a1 false _ A6.out).mono ?_); rintro e w' ⟨rfl, ⟨nd, rfl⟩⟩))
   go_ret
   exact ⟨by first | rfl | (simp [errW_none, errW_some] <;> rfl) | (simp [*, errW_none, errW_some] <;> rfl), by repeat (first | (with_reducible first | exact HB.out | apply zA | apply zB | apply zC) | exact HB.out)⟩
 ·replace c5 := Bool.eq_false_iff.mpr c5
  subst c5
  have H1 : (some false) = some r := by rw [if_neg (show ¬ (false = true) by decide)] at H; exact H
  clear H
  have H := H1
  clear H1
  obtain rfl := Option.some.inj H
  go_enter Try.func68, Try.ntmps68
  go_wp2_with (first | ((with_reducible refine gate_callee (f := 20) rfl ?_); refine goesL_ (some 8) rfl rfl Try.func20 (by kernel_rfl) rfl #[.slice A0 l0.length c0] rfl (by (try simp only [z6, z7, z8]); first | done | rfl | (simp only [z4, z5]; rfl)) ?_; (with_reducible refine (impl_IsExpr.calls k _ _ l0 false _ ?side1 ?side2 A4.out).mono ?_); (case side1 => repeat (first | exact HR0.out | (with_reducible refine Kd.C_alloc ?_ _) | (with_reducible refine Kd.C_drewN ?_ _) | (with_reducible refine Kd.C_drew ?_))); (case side2 => exact HC0.out); rintro e w11 ⟨rfl, hb⟩; refine ⟨_, rfl, ?_⟩; have n0_ := zK (zL (by repeat (first | (with_reducible first | exact HB.out | apply zA | apply zB | apply zC) | exact HB.out)) hb); clear HB; have HB := n0_; clear n0_; (try clear hb); (try clear hb2); (try clear hk); (try clear hi)))
  go_ret
  exact ⟨by first | rfl | (simp [errW_none, errW_some] <;> rfl) | (simp [*, errW_none, errW_some] <;> rfl), by repeat (first | (with_reducible first | exact HB.out | apply zA | apply zB | apply zC) | exact HB.out)⟩

/-! ### impl_bit: function 96 -/
def impl_bit.f (a0 : Bool) : Option (Int) := if a0 = true then (some 1) else (some 0)
set_option maxHeartbeats 8000000 in
set_option maxRecDepth 100000 in
theorem impl_bit.calls (a0 : Bool) (r : Int) (w : World) (h : impl_bit.f a0 = some r) :
  Calls Try.prog 96 #[.bool a0] w fun e w' => e = .returned (.int .i64 r) ∧ Drawn0 w w' := by
 have H : (if a0 = true then (some 1) else (some 0)) = some r := h
 clear h
 by_cases c2 : a0 = true
 ·subst c2
  have H1 : (some 1) = some r := by rw [if_pos rfl] at H; exact H
  clear H
  have H := H1
  clear H1
  obtain rfl := Option.some.inj H
  go_enter Try.func96, Try.ntmps96
  go_wp2
  go_ret
  exact ⟨by first | rfl | (simp; done) | (simp [*]; done), by repeat (first | exact Drawn0.refl _ | apply Drawn0.step)⟩
 ·replace c2 := Bool.eq_false_iff.mpr c2
  subst c2
  have H1 : (some 0) = some r := by rw [if_neg (show ¬ (false = true) by decide)] at H; exact H
  clear H
  have H := H1
  clear H1
  obtain rfl := Option.some.inj H
  go_enter Try.func96, Try.ntmps96
  go_wp2
  go_ret
  exact ⟨by first | rfl | (simp; done) | (simp [*]; done), by repeat (first | exact Drawn0.refl _ | apply Drawn0.step)⟩

/-! ### impl_apply: function 85 -/
def impl_apply.f (a0 : ByteArray) (a1 : Int) (a2 : Int) : Option (Int) := if a0.toList = ([110, 111, 116] : List UInt8) then (some (Go.bits .and .i64 (wrap64 (63 - a1)) 63)) else (if a0.toList = ([110, 101, 103] : List UInt8) then (some (Go.bits .and .i64 (wrap64 (-a1)) 63)) else (if a0.toList = ([97, 100, 100] : List UInt8) then (some (Go.bits .and .i64 (wrap64 (a1 + a2)) 63)) else (if a0.toList = ([115, 117, 98] : List UInt8) then (some (Go.bits .and .i64 (wrap64 (a1 - a2)) 63)) else (if a0.toList = ([109, 117, 108] : List UInt8) then (some (Go.bits .and .i64 (wrap64 (a1 * a2)) 63)) else (if a0.toList = ([97, 110, 100] : List UInt8) then (some (Go.bits .and .i64 (Go.bits .and .i64 a1 a2) 63)) else (if a0.toList = ([111, 114] : List UInt8) then (some (Go.bits .and .i64 (Go.bits .or .i64 a1 a2) 63)) else (if a0.toList = ([120, 111, 114] : List UInt8) then (some (Go.bits .and .i64 (Go.bits .xor .i64 a1 a2) 63)) else (if a0.toList = ([115, 104, 108] : List UInt8) then (if a2 < 6 then (if 0 ≤ a2 then (some (Go.bits .and .i64 (shl .i64 a1 a2) 63)) else (none)) else (some (Go.bits .and .i64 0 63))) else (if a0.toList = ([115, 104, 114] : List UInt8) then (if a2 < 6 then (if 0 ≤ a2 then (some (Go.bits .and .i64 (shr .i64 a1 a2) 63)) else (none)) else (some (Go.bits .and .i64 0 63))) else (if a0.toList = ([108, 101, 115, 115] : List UInt8) then ((impl_bit.f (decide (a1 < a2))).bind fun t158 => (some (Go.bits .and .i64 t158 63))) else (if a0.toList = ([101, 113] : List UInt8) then ((impl_bit.f (a1 == a2)).bind fun t159 => (some (Go.bits .and .i64 t159 63))) else (some (Go.bits .and .i64 0 63)))))))))))))
set_option maxHeartbeats 8000000 in
set_option maxRecDepth 100000 in
theorem impl_apply.calls (a0 : ByteArray) (a1 : Int) (a2 : Int) (r : Int) (w : World) (h : impl_apply.f a0 a1 a2 = some r) :
  Calls Try.prog 85 #[.string a0, .int .i64 a1, .int .i64 a2] w fun e w' => e = .returned (.int .i64 r) ∧ Drawn0 w w' := by
 have H : (if a0.toList = ([110, 111, 116] : List UInt8) then (some (Go.bits .and .i64 (wrap64 (63 - a1)) 63)) else (if a0.toList = ([110, 101, 103] : List UInt8) then (some (Go.bits .and .i64 (wrap64 (-a1)) 63)) else (if a0.toList = ([97, 100, 100] : List UInt8) then (some (Go.bits .and .i64 (wrap64 (a1 + a2)) 63)) else (if a0.toList = ([115, 117, 98] : List UInt8) then (some (Go.bits .and .i64 (wrap64 (a1 - a2)) 63)) else (if a0.toList = ([109, 117, 108] : List UInt8) then (some (Go.bits .and .i64 (wrap64 (a1 * a2)) 63)) else (if a0.toList = ([97, 110, 100] : List UInt8) then (some (Go.bits .and .i64 (Go.bits .and .i64 a1 a2) 63)) else (if a0.toList = ([111, 114] : List UInt8) then (some (Go.bits .and .i64 (Go.bits .or .i64 a1 a2) 63)) else (if a0.toList = ([120, 111, 114] : List UInt8) then (some (Go.bits .and .i64 (Go.bits .xor .i64 a1 a2) 63)) else (if a0.toList = ([115, 104, 108] : List UInt8) then (if a2 < 6 then (if 0 ≤ a2 then (some (Go.bits .and .i64 (shl .i64 a1 a2) 63)) else (none)) else (some (Go.bits .and .i64 0 63))) else (if a0.toList = ([115, 104, 114] : List UInt8) then (if a2 < 6 then (if 0 ≤ a2 then (some (Go.bits .and .i64 (shr .i64 a1 a2) 63)) else (none)) else (some (Go.bits .and .i64 0 63))) else (if a0.toList = ([108, 101, 115, 115] : List UInt8) then ((impl_bit.f (decide (a1 < a2))).bind fun t158 => (some (Go.bits .and .i64 t158 63))) else (if a0.toList = ([101, 113] : List UInt8) then ((impl_bit.f (a1 == a2)).bind fun t159 => (some (Go.bits .and .i64 t159 63))) else (some (Go.bits .and .i64 0 63)))))))))))))) = some r := h
 clear h
 by_cases c4 : a0.toList = ([110, 111, 116] : List UInt8)
 ·rw [if_pos c4] at H
  have c4b0 : (a0.toList == ([110, 111, 116] : List UInt8)) = true := beq_iff_eq.mpr c4
  have c4b1 : (a0.toList != ([110, 111, 116] : List UInt8)) = false := bne_eq_false_iff_eq.mpr c4
  clear c4
  obtain rfl := Option.some.inj H
  go_enter Try.func85, Try.ntmps85
  go_wp2
  go_ret
  exact ⟨by first | rfl | (simp; done) | (simp [*]; done), by repeat (first | exact Drawn0.refl _ | apply Drawn0.step)⟩
 ·rw [if_neg c4] at H
  have c4b0 : (a0.toList == ([110, 111, 116] : List UInt8)) = false := beq_eq_false_iff_ne.mpr c4
  have c4b1 : (a0.toList != ([110, 111, 116] : List UInt8)) = true := bne_iff_ne.mpr c4
  by_cases c5 : a0.toList = ([110, 101, 103] : List UInt8)
  ·rw [if_pos c5] at H
   have c5b0 : (a0.toList == ([110, 101, 103] : List UInt8)) = true := beq_iff_eq.mpr c5
   have c5b1 : (a0.toList != ([110, 101, 103] : List UInt8)) = false := bne_eq_false_iff_eq.mpr c5
   clear c5
   obtain rfl := Option.some.inj H
   go_enter Try.func85, Try.ntmps85
   go_wp2
   go_ret
   exact ⟨by first | rfl | (simp; done) | (simp [*]; done), by repeat (first | exact Drawn0.refl _ | apply Drawn0.step)⟩
  ·rw [if_neg c5] at H
   have c5b0 : (a0.toList == ([110, 101, 103] : List UInt8)) = false := beq_eq_false_iff_ne.mpr c5
   have c5b1 : (a0.toList != ([110, 101, 103] : List UInt8)) = true := bne_iff_ne.mpr c5
   by_cases c6 : a0.toList = ([97, 100, 100] : List UInt8)
   ·rw [if_pos c6] at H
    have c6b0 : (a0.toList == ([97, 100, 100] : List UInt8)) = true := beq_iff_eq.mpr c6
    have c6b1 : (a0.toList != ([97, 100, 100] : List UInt8)) = false := bne_eq_false_iff_eq.mpr c6
    clear c6
    obtain rfl := Option.some.inj H
    go_enter Try.func85, Try.ntmps85
    go_wp2
    go_ret
    exact ⟨by first | rfl | (simp; done) | (simp [*]; done), by repeat (first | exact Drawn0.refl _ | apply Drawn0.step)⟩
   ·rw [if_neg c6] at H
    have c6b0 : (a0.toList == ([97, 100, 100] : List UInt8)) = false := beq_eq_false_iff_ne.mpr c6
    have c6b1 : (a0.toList != ([97, 100, 100] : List UInt8)) = true := bne_iff_ne.mpr c6
    by_cases c7 : a0.toList = ([115, 117, 98] : List UInt8)
    ·rw [if_pos c7] at H
     have c7b0 : (a0.toList == ([115, 117, 98] : List UInt8)) = true := beq_iff_eq.mpr c7
     have c7b1 : (a0.toList != ([115, 117, 98] : List UInt8)) = false := bne_eq_false_iff_eq.mpr c7
     clear c7
     obtain rfl := Option.some.inj H
     go_enter Try.func85, Try.ntmps85
     go_wp2
     go_ret
     exact ⟨by first | rfl | (simp; done) | (simp [*]; done), by repeat (first | exact Drawn0.refl _ | apply Drawn0.step)⟩
    ·rw [if_neg c7] at H
     have c7b0 : (a0.toList == ([115, 117, 98] : List UInt8)) = false := beq_eq_false_iff_ne.mpr c7
     have c7b1 : (a0.toList != ([115, 117, 98] : List UInt8)) = true := bne_iff_ne.mpr c7
     by_cases c8 : a0.toList = ([109, 117, 108] : List UInt8)
     ·rw [if_pos c8] at H
      have c8b0 : (a0.toList == ([109, 117, 108] : List UInt8)) = true := beq_iff_eq.mpr c8
      have c8b1 : (a0.toList != ([109, 117, 108] : List UInt8)) = false := bne_eq_false_iff_eq.mpr c8
      clear c8
      obtain rfl := Option.some.inj H
      go_enter Try.func85, Try.ntmps85
      go_wp2
      go_ret
      exact ⟨by first | rfl | (simp; done) | (simp [*]; done), by repeat (first | exact Drawn0.refl _ | apply Drawn0.step)⟩
     ·rw [if_neg c8] at H
      have c8b0 : (a0.toList == ([109, 117, 108] : List UInt8)) = false := beq_eq_false_iff_ne.mpr c8
      have c8b1 : (a0.toList != ([109, 117, 108] : List UInt8)) = true := bne_iff_ne.mpr c8
      by_cases c9 : a0.toList = ([97, 110, 100] : List UInt8)
      ·rw [if_pos c9] at H
       have c9b0 : (a0.toList == ([97, 110, 100] : List UInt8)) = true := beq_iff_eq.mpr c9
       have c9b1 : (a0.toList != ([97, 110, 100] : List UInt8)) = false := bne_eq_false_iff_eq.mpr c9
       clear c9
       obtain rfl := Option.some.inj H
       go_enter Try.func85, Try.ntmps85
       go_wp2
       go_ret
       exact ⟨by first | rfl | (simp; done) | (simp [*]; done), by repeat (first | exact Drawn0.refl _ | apply Drawn0.step)⟩
      ·rw [if_neg c9] at H
       have c9b0 : (a0.toList == ([97, 110, 100] : List UInt8)) = false := beq_eq_false_iff_ne.mpr c9
       have c9b1 : (a0.toList != ([97, 110, 100] : List UInt8)) = true := bne_iff_ne.mpr c9
       by_cases c10 : a0.toList = ([111, 114] : List UInt8)
       ·rw [if_pos c10] at H
        have c10b0 : (a0.toList == ([111, 114] : List UInt8)) = true := beq_iff_eq.mpr c10
        have c10b1 : (a0.toList != ([111, 114] : List UInt8)) = false := bne_eq_false_iff_eq.mpr c10
        clear c10
        obtain rfl := Option.some.inj H
        go_enter Try.func85, Try.ntmps85
        go_wp2
        go_ret
        exact ⟨by first | rfl | (simp; done) | (simp [*]; done), by repeat (first | exact Drawn0.refl _ | apply Drawn0.step)⟩
       ·rw [if_neg c10] at H
        have c10b0 : (a0.toList == ([111, 114] : List UInt8)) = false := beq_eq_false_iff_ne.mpr c10
        have c10b1 : (a0.toList != ([111, 114] : List UInt8)) = true := bne_iff_ne.mpr c10
        by_cases c11 : a0.toList = ([120, 111, 114] : List UInt8)
        ·rw [if_pos c11] at H
         have c11b0 : (a0.toList == ([120, 111, 114] : List UInt8)) = true := beq_iff_eq.mpr c11
         have c11b1 : (a0.toList != ([120, 111, 114] : List UInt8)) = false := bne_eq_false_iff_eq.mpr c11
         clear c11
         obtain rfl := Option.some.inj H
         go_enter Try.func85, Try.ntmps85
         go_wp2
         go_ret
         exact ⟨by first | rfl | (simp; done) | (simp [*]; done), by repeat (first | exact Drawn0.refl _ | apply Drawn0.step)⟩
        ·rw [if_neg c11] at H
         have c11b0 : (a0.toList == ([120, 111, 114] : List UInt8)) = false := beq_eq_false_iff_ne.mpr c11
         have c11b1 : (a0.toList != ([120, 111, 114] : List UInt8)) = true := bne_iff_ne.mpr c11
         by_cases c12 : a0.toList = ([115, 104, 108] : List UInt8)
         ·rw [if_pos c12] at H
          have c12b0 : (a0.toList == ([115, 104, 108] : List UInt8)) = true := beq_iff_eq.mpr c12
          have c12b1 : (a0.toList != ([115, 104, 108] : List UInt8)) = false := bne_eq_false_iff_eq.mpr c12
          clear c12
          by_cases c13 : a2 < 6
          ·rw [if_pos c13] at H
           have c13b0 : decide (a2 < 6) = true := decide_eq_true c13
           clear c13
           by_cases c14 : 0 ≤ a2
           ·rw [if_pos c14] at H
            have c14b0 := eq_true c14
            have c14b1 : decide (0 ≤ a2) = true := decide_eq_true c14
            clear c14
            obtain ⟨ji15, hji15⟩ : ∃ j_ : Int, (shl .i64 a1 a2) = j_ := ⟨_, rfl⟩
            replace H : (some (Go.bits .and .i64 (ji15) 63)) = some r := by first | (rw [hji15] at H; exact H) | (simp only [hji15] at H ⊢; exact H)
            have hji15_ : (IntKind.i64.wrap (a1 * 2 ^ min a2.toNat 64)) = ji15 := hji15
            have hji15z : a2 ≤ 64 → (IntKind.i64.wrap (a1 * 2 ^ a2.toNat)) = ji15 := shl_small hji15
            have hji15y : (wrap64 (a1 * 2 ^ min a2.toNat 64)) = ji15 := (i64_w _).symm.trans hji15_
            have hji15x : a2 ≤ 64 → (wrap64 (a1 * 2 ^ a2.toNat)) = ji15 := fun h_ => (i64_w _).symm.trans (hji15z h_)
            obtain rfl := Option.some.inj H
            go_enter Try.func85, Try.ntmps85
            go_wp2
            go_ret
            exact ⟨by first | rfl | (simp; done) | (simp only [← hji15] <;> (first | rfl | simp)) | (simp [*]; done), by repeat (first | exact Drawn0.refl _ | apply Drawn0.step)⟩
           ·rw [if_neg c14] at H
            exact absurd H (by simp)
          ·rw [if_neg c13] at H
           have c13b0 : decide (a2 < 6) = false := decide_eq_false c13
           clear c13
           obtain rfl := Option.some.inj H
           go_enter Try.func85, Try.ntmps85
           go_wp2
           go_ret
           exact ⟨by first | rfl | (simp; done) | (simp [*]; done), by repeat (first | exact Drawn0.refl _ | apply Drawn0.step)⟩
         ·rw [if_neg c12] at H
          have c12b0 : (a0.toList == ([115, 104, 108] : List UInt8)) = false := beq_eq_false_iff_ne.mpr c12
          have c12b1 : (a0.toList != ([115, 104, 108] : List UInt8)) = true := bne_iff_ne.mpr c12
          by_cases c16 : a0.toList = ([115, 104, 114] : List UInt8)
          ·rw [if_pos c16] at H
           have c16b0 : (a0.toList == ([115, 104, 114] : List UInt8)) = true := beq_iff_eq.mpr c16
           have c16b1 : (a0.toList != ([115, 104, 114] : List UInt8)) = false := bne_eq_false_iff_eq.mpr c16
           clear c16
           by_cases c17 : a2 < 6
           ·rw [if_pos c17] at H
            have c17b0 : decide (a2 < 6) = true := decide_eq_true c17
            clear c17
            by_cases c18 : 0 ≤ a2
            ·rw [if_pos c18] at H
             have c18b0 := eq_true c18
             have c18b1 : decide (0 ≤ a2) = true := decide_eq_true c18
             clear c18
             obtain ⟨ji19, hji19⟩ : ∃ j_ : Int, (shr .i64 a1 a2) = j_ := ⟨_, rfl⟩
             replace H : (some (Go.bits .and .i64 (ji19) 63)) = some r := by first | (rw [hji19] at H; exact H) | (simp only [hji19] at H ⊢; exact H)
             have hji19_ : (a1 / 2 ^ min a2.toNat 64) = ji19 := hji19
             have hji19z : a2 ≤ 64 → (a1 / 2 ^ a2.toNat) = ji19 := shr_small hji19
             obtain rfl := Option.some.inj H
             go_enter Try.func85, Try.ntmps85
             go_wp2
             go_ret
             exact ⟨by first | rfl | (simp; done) | (simp only [← hji19] <;> (first | rfl | simp)) | (simp [*]; done), by repeat (first | exact Drawn0.refl _ | apply Drawn0.step)⟩
            ·rw [if_neg c18] at H
             exact absurd H (by simp)
           ·rw [if_neg c17] at H
            have c17b0 : decide (a2 < 6) = false := decide_eq_false c17
            clear c17
            obtain rfl := Option.some.inj H
            go_enter Try.func85, Try.ntmps85
            go_wp2
            go_ret
            exact ⟨by first | rfl | (simp; done) | (simp [*]; done), by repeat (first | exact Drawn0.refl _ | apply Drawn0.step)⟩
          ·rw [if_neg c16] at H
           have c16b0 : (a0.toList == ([115, 104, 114] : List UInt8)) = false := beq_eq_false_iff_ne.mpr c16
           have c16b1 : (a0.toList != ([115, 104, 114] : List UInt8)) = true := bne_iff_ne.mpr c16
           by_cases c20 : a0.toList = ([108, 101, 115, 115] : List UInt8)
           ·rw [if_pos c20] at H
            have c20b0 : (a0.toList == ([108, 101, 115, 115] : List UInt8)) = true := beq_iff_eq.mpr c20
            have c20b1 : (a0.toList != ([108, 101, 115, 115] : List UInt8)) = false := bne_eq_false_iff_eq.mpr c20
            clear c20
            replace H := Option.bind_eq_some_iff.mp H
            obtain ⟨t158, A210, H⟩ := H
            replace H : (some (Go.bits .and .i64 t158 63)) = some r := H
            have A21 := zK A210
            clear A210
            obtain rfl := Option.some.inj H
            go_enter Try.func85, Try.ntmps85
            go_wp2_with (first | ((with_reducible refine gate_callee (f := 96) rfl ?_); refine goesL_ (some 66) rfl rfl Try.func96 (by kernel_rfl) rfl #[.bool (decide (a1 < a2))] rfl (by (try simp only [z6, z7, z8]); first | done | rfl | (simp only [z4, z5]; rfl)) ?_; (with_reducible refine (impl_bit.calls (decide (a1 < a2)) t158 _ A21.out).mono ?_); rintro e w' ⟨rfl, ⟨nd, rfl⟩⟩; refine ⟨_, rfl, ?_⟩))
            go_ret
            exact ⟨by first | rfl | (simp; done) | (simp [*]; done), by repeat (first | exact Drawn0.refl _ | apply Drawn0.step)⟩
           ·rw [if_neg c20] at H
            have c20b0 : (a0.toList == ([108, 101, 115, 115] : List UInt8)) = false := beq_eq_false_iff_ne.mpr c20
            have c20b1 : (a0.toList != ([108, 101, 115, 115] : List UInt8)) = true := bne_iff_ne.mpr c20
            by_cases c22 : a0.toList = ([101, 113] : List UInt8)
            ·rw [if_pos c22] at H
             have c22b0 : (a0.toList == ([101, 113] : List UInt8)) = true := beq_iff_eq.mpr c22
             have c22b1 : (a0.toList != ([101, 113] : List UInt8)) = false := bne_eq_false_iff_eq.mpr c22
             clear c22
             replace H := Option.bind_eq_some_iff.mp H
             obtain ⟨t159, A230, H⟩ := H
             replace H : (some (Go.bits .and .i64 t159 63)) = some r := H
             have A23 := zK A230
             clear A230
             obtain rfl := Option.some.inj H
             go_enter Try.func85, Try.ntmps85
             go_wp2_with (first | ((with_reducible refine gate_callee (f := 96) rfl ?_); refine goesL_ (some 72) rfl rfl Try.func96 (by kernel_rfl) rfl #[.bool (a1 == a2)] rfl (by (try simp only [z6, z7, z8]); first | done | rfl | (simp only [z4, z5]; rfl)) ?_; (with_reducible refine (impl_bit.calls (a1 == a2) t159 _ A23.out).mono ?_); rintro e w' ⟨rfl, ⟨nd, rfl⟩⟩; refine ⟨_, rfl, ?_⟩))
             go_ret
             exact ⟨by first | rfl | (simp; done) | (simp [*]; done), by repeat (first | exact Drawn0.refl _ | apply Drawn0.step)⟩
            ·rw [if_neg c22] at H
             have c22b0 : (a0.toList == ([101, 113] : List UInt8)) = false := beq_eq_false_iff_ne.mpr c22
             have c22b1 : (a0.toList != ([101, 113] : List UInt8)) = true := bne_iff_ne.mpr c22
             obtain rfl := Option.some.inj H
             go_enter Try.func85, Try.ntmps85
             go_wp2
             go_ret
             exact ⟨by first | rfl | (simp; done) | (simp [*]; done), by repeat (first | exact Drawn0.refl _ | apply Drawn0.step)⟩

/-! ### impl_values: function 73 -/
def impl_values.l0 : Nat → Int → Int → List Int → List (S47) → Int → Int → Option (List Int)
 | 0, _, _, _, _, _, _ => none
 | k + 1, x1, x2, x7, x13, x14, x15 => if x15 < x14 then (if 0 ≤ x15 then (if x15 < (x13.length : Int) then (if ((rd_T47 x13 x15).f0).toList = ([105, 110] : List UInt8) then ((some (([x1, x2] : List Int) : List Int)).bind fun y165 => (if 0 ≤ ((rd_T47 x13 x15).f3) then (if ((rd_T47 x13 x15).f3) < (y165.length : Int) then (if x15 < (x7.length : Int) then (impl_values.l0 k x1 x2 (x7.set (x15 : Int).toNat (rd y165 ((rd_T47 x13 x15).f3))) x13 x14 (wrap64 (x15 + 1))) else (none)) else (none)) else (none))) else (if ((rd_T47 x13 x15).f0).toList = ([99, 111, 110, 115, 116] : List UInt8) then (if x15 < (x7.length : Int) then (impl_values.l0 k x1 x2 (x7.set (x15 : Int).toNat ((rd_T47 x13 x15).f3)) x13 x14 (wrap64 (x15 + 1))) else (none)) else (if 0 ≤ ((rd_T47 x13 x15).f1) then (if ((rd_T47 x13 x15).f1) < (x7.length : Int) then (if 0 ≤ ((rd_T47 x13 x15).f2) then (if ((rd_T47 x13 x15).f2) < (x7.length : Int) then ((impl_apply.f ((rd_T47 x13 x15).f0) (rd x7 ((rd_T47 x13 x15).f1)) (rd x7 ((rd_T47 x13 x15).f2))).bind fun t173 => (if x15 < (x7.length : Int) then (impl_values.l0 k x1 x2 (x7.set (x15 : Int).toNat t173) x13 x14 (wrap64 (x15 + 1))) else (none))) else (none)) else (none)) else (none)) else (none)))) else (none)) else (none)) else (some x7)
def impl_values.f (k : Nat) (l0 : List (S47)) (a1 : Int) (a2 : Int) : Option (List Int) := if 0 ≤ (l0.length : Int) then (if ((l0.length : Int) : Int).toNat ≤ 35184372088832 then (impl_values.l0 k a1 a2 (List.replicate ((l0.length : Int) : Int).toNat 0) l0 (l0.length : Int) 0) else (none)) else (none)
theorem impl_values.mono_l : ∀ k, (∀ y0 y1 y2 y3 y4 y5, LeO (impl_values.l0 k y0 y1 y2 y3 y4 y5) (impl_values.l0 (k + 1) y0 y1 y2 y3 y4 y5))
 | 0 => fun _ _ _ _ _ _ r h => by simp [impl_values.l0] at h
 | k + 1 => by
  have ih0 := impl_values.mono_l k
  ·intro y0 y1 y2 y3 y4 y5
   unfold impl_values.l0
   repeat' first
   | (with_reducible exact ih0 _ _ _ _ _ _)
   | (with_reducible exact LeO.refl _)
   | (with_reducible exact LeO.none _)
   | (with_reducible refine LeO.ite ?_ ?_)
   | (with_reducible refine LeO.bind ?_ (fun _ => ?_))
   | exact ih0 _ _ _ _ _ _
   | exact LeO.none _
   | refine LeO.ite ?_ ?_
   | refine LeO.bind ?_ (fun _ => ?_)
theorem impl_values.mono : ∀ a0 a1 a2 k, LeO (impl_values.f k a0 a1 a2) (impl_values.f (k + 1) a0 a1 a2) := by
 intro a0 a1 a2 k
 have ih0 := impl_values.mono_l k
 unfold impl_values.f
 repeat' first
   | (with_reducible exact ih0 _ _ _ _ _ _)
   | (with_reducible exact LeO.refl _)
   | (with_reducible exact LeO.none _)
   | (with_reducible refine LeO.ite ?_ ?_)
   | (with_reducible refine LeO.bind ?_ (fun _ => ?_))
   | exact ih0 _ _ _ _ _ _
   | exact LeO.none _
   | refine LeO.ite ?_ ?_
   | refine LeO.bind ?_ (fun _ => ?_)
def impl_values.T6 : Bool × List (List Nat × List Nat) := (true, [([], []), ([], []), ([], []), ([2], [2]), ([], []), ([], []), ([5], [5]), ([4, 6], [4, 6]), ([7], [7]), ([], []), ([], []), ([10], [10]), ([9, 11], [9, 11]), ([12], [12]), ([3, 8, 13], [3, 8, 13]), ([0, 1, 0, 1, 2, 3, 4, 5, 6, 7, 8, 9, 10, 11, 12, 13, 14], [0, 1]), ([15, 14, 14, 0, 1, 2, 3, 4, 5, 6, 7, 8, 9, 10, 11, 12, 13, 14], [14, 15])])
def impl_values.B6 : List Nat := [0, 0, 0, 4, 0, 0, 32, 112, 240, 0, 0, 1024, 3584, 7680, 16380, 32767, 65535]
theorem impl_values.tab6 : rtab .any (opsOf Try.f73 6) = impl_values.T6 := by kernel_rfl
theorem impl_values.bits6 : waitsOk impl_values.T6.2 impl_values.B6 = true := by kernel_rfl
set_option maxHeartbeats 8000000 in
set_option maxRecDepth 100000 in
theorem impl_values.calls (k : Nat) (A0 : Option Addr) (c0 : Nat) (l0 : List (S47)) (a1 : Int) (a2 : Int) (r : List Int) (w : World) (hr0 : Kd.C k47 w A0 l0.length l0) (hc0 : l0.length ≤ c0) (h : impl_values.f k l0 a1 a2 = some r) :
  Calls Try.prog 73 #[.slice A0 l0.length c0, .int .i64 a1, .int .i64 a2] w fun e w' => ∃ v0_ : Value, e = .returned (v0_) ∧ Kd.R (Kd.int .i64) 3 w' w.heap.size (fun _ => True) v0_ r ∧ Below w.heap.size w w' := by
 have hu47 := Try.underlying47
 have HR0 := zK hr0
 have HC0 := zK hc0
 clear hr0 hc0
 have HB := zK (Below.refl w.heap.size w)
 have H : (if 0 ≤ (l0.length : Int) then (if ((l0.length : Int) : Int).toNat ≤ 35184372088832 then (impl_values.l0 k a1 a2 (List.replicate ((l0.length : Int) : Int).toNat 0) l0 (l0.length : Int) 0) else (none)) else (none)) = some r := h
 clear h
 by_cases c4 : 0 ≤ (l0.length : Int)
 ·rw [if_pos c4] at H
  have c4b0 := eq_true c4
  have c4b1 : decide (0 ≤ (l0.length : Int)) = true := decide_eq_true c4
  clear c4
  by_cases c5 : ((l0.length : Int) : Int).toNat ≤ 35184372088832
  ·rw [if_pos c5] at H
   have c5b0 := eq_true c5
   have c5b1 : decide (((l0.length : Int) : Int).toNat ≤ 35184372088832) = true := decide_eq_true c5
   clear c5
   obtain ⟨y160, hy160⟩ : ∃ y_ : List Int, y_ = (List.replicate ((l0.length : Int) : Int).toNat 0) := ⟨_, rfl⟩
   replace H : (impl_values.l0 k a1 a2 y160 l0 (l0.length : Int) 0) = some r := by first | (rw [hy160]; with_reducible exact H) | (have H2_ := (Option.bind_some _ _).symm.trans H; rw [hy160]; with_reducible exact H2_) | (have H2_ := (Option.bind_some _ _).symm.trans H; with_reducible exact H2_) | with_reducible exact H | (rw [hy160]; exact H) | exact H
   have Ny160 := zK hy160
   clear hy160
   have H' := zK H
   clear H
   go_enter Try.func73, Try.ntmps73
   go_wp2_with (first | ((with_reducible refine gate_dst (N := 12) rfl ?_); refine Kd.R_make (Kd.int .i64) _ 3 rfl (N := 12) rfl 31 _ _ rfl (l0.length : Int) rfl rfl Try.underlying31 (.int .i64 0) 8 info3 rfl (by decide) (by omega) 0 (ok := fun _ => True) (okp := fun _ => True) rfl (fun _ hk => hk) trivial (zo) (Nat.le_trans (Nat.mul_le_mul_right _ (zo : (l0.length : Int).toNat ≤ 35184372088832)) (by omega)) (Below.refl _ _) (Nat.le_refl _) ?_; intro v161 w6 ho7 hb hg_ hnew_; clear hg_ hnew_; (first | rw [← Ny160.out] at ho7 | (simp only [Int.reduceToNat] at ho7; rw [← Ny160.out] at ho7)); have n0_ := zK (Kd.R_lower ho7 (zN (by repeat (first | (with_reducible first | exact HB.out | apply zA | apply zB | apply zC) | exact HB.out)))); have n1_ := zK (zL (by repeat (first | (with_reducible first | exact HB.out | apply zA | apply zB | apply zC) | exact HB.out)) hb); clear HB; have HO162 := n0_; have HB := n1_; clear n0_ n1_; clear hb ho7))
   go_loopg [15] k (fun kq v15 w' => ∃ (x7_1 : List Int) (x15_1 : Int), v15 = .int .i64 x15_1 ∧ Aside0 (impl_values.l0 kq a1 a2 x7_1 l0 (l0.length : Int) x15_1 = some r) ∧ Aside0 (kq ≤ k) ∧ Aside0 (Kd.R (Kd.int .i64) 3 w' w.heap.size (fun _ => True) v161 x7_1) ∧ Aside0 (Below w.heap.size w w'))
   case atStart => exact ⟨(y160), (0), (by first | rfl | (simp; done) | (simp [*]; done)), H', ⟨Nat.le_refl _⟩, ⟨by (with_reducible repeat (first | apply Kd.R_alloc | apply Kd.R_drewN | apply Kd.R_drew)); exact HO162.out⟩, ⟨by repeat (first | (with_reducible first | exact HB.out | apply zA | apply zB | apply zC) | exact HB.out)⟩⟩
   case round =>
    clear H'
    try clear p2
    try clear c4
    try clear c4b0
    try clear c4b1
    try clear c5
    try clear c5b0
    try clear c5b1
    try clear c7
    obtain ⟨x7_1, x15_1, rfl, HA, HK1, HO_7, HB⟩ := hrel
    cases gk with
    | zero => exact absurd HA.out (by simp [impl_values.l0])
    | succ k1 =>
     have H := HA.out
     clear HA
     simp only [impl_values.l0] at H
     by_cases c8 : x15_1 < (l0.length : Int)
     ·rw [if_pos c8] at H
      have c8b0 : decide (x15_1 < (l0.length : Int)) = true := decide_eq_true c8
      clear c8
      by_cases c9 : 0 ≤ x15_1
      ·rw [if_pos c9] at H
       have c9b0 : decide (0 ≤ x15_1) = true := decide_eq_true c9
       clear c9
       by_cases c10 : x15_1 < (l0.length : Int)
       ·rw [if_pos c10] at H
        have c10b0 : decide (x15_1 < (l0.length : Int)) = true := decide_eq_true c10
        clear c10
        by_cases c11 : ((rd_T47 l0 x15_1).f0).toList = ([105, 110] : List UInt8)
        ·rw [if_pos c11] at H
         have c11b0 : (((rd_T47 l0 x15_1).f0).toList == ([105, 110] : List UInt8)) = true := beq_iff_eq.mpr c11
         have c11b1 : (((rd_T47 l0 x15_1).f0).toList != ([105, 110] : List UInt8)) = false := bne_eq_false_iff_eq.mpr c11
         clear c11
         obtain ⟨y165, hy165⟩ : ∃ y_ : List Int, y_ = (([a1, a2] : List Int)) := ⟨_, rfl⟩
         replace H : (if 0 ≤ ((rd_T47 l0 x15_1).f3) then (if ((rd_T47 l0 x15_1).f3) < (y165.length : Int) then (if x15_1 < (x7_1.length : Int) then (impl_values.l0 k1 a1 a2 (x7_1.set (x15_1 : Int).toNat (rd y165 ((rd_T47 l0 x15_1).f3))) l0 (l0.length : Int) (wrap64 (x15_1 + 1))) else (none)) else (none)) else (none)) = some r := by first | (rw [hy165]; with_reducible exact H) | (have H2_ := (Option.bind_some _ _).symm.trans H; rw [hy165]; with_reducible exact H2_) | (have H2_ := (Option.bind_some _ _).symm.trans H; with_reducible exact H2_) | with_reducible exact H | (rw [hy165]; exact H) | exact H
         have Ny165 := zK hy165
         clear hy165
         by_cases c12 : 0 ≤ ((rd_T47 l0 x15_1).f3)
         ·rw [if_pos c12] at H
          have c12b0 : decide (0 ≤ ((rd_T47 l0 x15_1).f3)) = true := decide_eq_true c12
          clear c12
          by_cases c13 : ((rd_T47 l0 x15_1).f3) < (y165.length : Int)
          ·rw [if_pos c13] at H
           have c13b0 : decide (((rd_T47 l0 x15_1).f3) < (y165.length : Int)) = true := decide_eq_true c13
           clear c13
           by_cases c14 : x15_1 < (x7_1.length : Int)
           ·rw [if_pos c14] at H
            have c14b0 : decide (x15_1 < (x7_1.length : Int)) = true := decide_eq_true c14
            clear c14
            obtain ⟨y169, hy169⟩ : ∃ y_ : List Int, y_ = (x7_1.set (x15_1 : Int).toNat (rd y165 ((rd_T47 l0 x15_1).f3))) := ⟨_, rfl⟩
            replace H : (impl_values.l0 k1 a1 a2 y169 l0 (l0.length : Int) (wrap64 (x15_1 + 1))) = some r := by first | (rw [hy169]; with_reducible exact H) | (have H2_ := (Option.bind_some _ _).symm.trans H; rw [hy169]; with_reducible exact H2_) | (have H2_ := (Option.bind_some _ _).symm.trans H; with_reducible exact H2_) | with_reducible exact H | (rw [hy169]; exact H) | exact H
            have Ny169 := zK hy169
            clear hy169
            have H' := zK H
            clear H
            have p163 : 0 ≤ (x15_1 : Int) := zo
            have q163 : x15_1 < (l0.length : Int) := zo
            obtain ⟨ad163, e163, hx163_0, hx163_1, hx163_2, hx163_3⟩ := at_T47 HR0.out x15_1 p163 q163
            cases e163
            replace hx163_0 := zt HB.out hx163_0
            replace hx163_1 := zt HB.out hx163_1
            replace hx163_2 := zt HB.out hx163_2
            replace hx163_3 := zt HB.out hx163_3
            replace p163 := eq_true p163
            replace q163 := eq_true q163
            go_wp2_with (first | ((with_reducible refine gate_dst (N := 9) rfl ?_); refine box_event ?hg (N := 9) ?hd (cs := #[.string (⟨#[]⟩ : ByteArray), .int .i64 0, .int .i64 0, .int .i64 0]) (t := 47) ?hr ?_; (case hd => rfl); (case hg => rfl); (case hr => first | (go_simp; done) | (go_simp; rfl)); intro gb164 hg w16 hbox hb; have n0_ := zK (Kd.R_below (by (with_reducible repeat (first | apply Kd.R_alloc | apply Kd.R_drewN | apply Kd.R_drew)); exact HO_7.out) hb); have n1_ := zK (zL (by repeat (first | (with_reducible first | exact HB.out | apply zA | apply zB | apply zC) | exact HB.out)) hb); have n2_ := zK (hbox); have n3_ := zK ((by rw [hg]; exact (zN (by repeat (first | (with_reducible first | exact HB.out | apply zA | apply zB | apply zC) | exact HB.out))) : w.heap.size ≤ gb164)); have n4_ := zK ((by rw [hg]; exact (zN (by repeat (first | (with_reducible first | exact HB.out | apply zA | apply zB | apply zC) | exact HB.out))) : w.heap.size ≤ gb164)); clear HO_7; clear HB; have HO_7 := n0_; have HB := n1_; have BK164 := n2_; have GW164 := n3_; have GE164 := n4_; clear n0_ n1_ n2_ n3_ n4_; clear hb hbox hg; have hcz17_0 : w16.cell? ⟨gb164, 0, none⟩ = some (.string (⟨#[]⟩ : ByteArray)) := (zI BK164.out 0).trans rfl; have hcz17_1 : w16.cell? ⟨gb164, 1, none⟩ = some (.int .i64 0) := (zI BK164.out 1).trans rfl; have hcz17_2 : w16.cell? ⟨gb164, 2, none⟩ = some (.int .i64 0) := (zI BK164.out 2).trans rfl; have hcz17_3 : w16.cell? ⟨gb164, 3, none⟩ = some (.int .i64 0) := (zI BK164.out 3).trans rfl; have hfz17_0 := zH BK164.out 0; have hfz17_1 := zH BK164.out 1; have hfz17_2 := zH BK164.out 2; have hfz17_3 := zH BK164.out 3) | ((with_reducible refine gate_dst (N := 44) rfl ?_); refine Kd.R_lit (Kd.int .i64) _ 3 ?hg (N := 44) ?hd (xs := ([a1, a2] : List Int)) (inner := [.int .i64 a1, .int .i64 a2]) (ok := fun _ => True) (okp := fun _ => True) ?hr ?hp (fun _ hk => hk) trivial (Below.refl _ _) (Nat.le_refl _) (by simp) ?_; (case hd => rfl); (case hg => rfl); (case hr => first | (go_simp; done) | (go_simp; rfl)); (case hp => exact (Reps.one (show Kd.M (Kd.int .i64) _ _ _ a1 [.int .i64 a1] from rfl) (Reps.one (show Kd.M (Kd.int .i64) _ _ _ a2 [.int .i64 a2] from rfl) (Reps.none _ _)))); intro v166 w18 ho19 hb hg_ hnew_; clear hg_ hnew_; (first | rw [← Ny165.out] at ho19 | (simp only [Int.reduceToNat] at ho19; rw [← Ny165.out] at ho19)); have n0_ := zK (Kd.R_elder' (by (with_reducible repeat (first | apply Kd.R_alloc | apply Kd.R_drewN | apply Kd.R_drew)); exact (Kd.R_mono (Kd.R_far (p := ⟨gb164, 3, none⟩) (Kd.R_far (p := ⟨gb164, 2, none⟩) (Kd.R_far (p := ⟨gb164, 1, none⟩) (Kd.R_far (p := ⟨gb164, 0, none⟩) (Kd.R_types HO_7.out BK164.out (by decide)) (fun _ hk => hk.2) (.string ((rd_T47 l0 x15_1).f0))) (fun _ hk => hk.2) (.int .i64 ((rd_T47 l0 x15_1).f1))) (fun _ hk => hk.2) (.int .i64 ((rd_T47 l0 x15_1).f2))) (fun _ hk => hk.2) (.int .i64 ((rd_T47 l0 x15_1).f3))) (fun _ h_ => h_.1))) (Kd.R_base ho19) hb); have n1_ := zK (Kd.R_lower (Kd.R_new' ho19 (Kd.R_lt (by (with_reducible repeat (first | apply Kd.R_alloc | apply Kd.R_drewN | apply Kd.R_drew)); exact (Kd.R_mono (Kd.R_far (p := ⟨gb164, 3, none⟩) (Kd.R_far (p := ⟨gb164, 2, none⟩) (Kd.R_far (p := ⟨gb164, 1, none⟩) (Kd.R_far (p := ⟨gb164, 0, none⟩) (Kd.R_types HO_7.out BK164.out (by decide)) (fun _ hk => hk.2) (.string ((rd_T47 l0 x15_1).f0))) (fun _ hk => hk.2) (.int .i64 ((rd_T47 l0 x15_1).f1))) (fun _ hk => hk.2) (.int .i64 ((rd_T47 l0 x15_1).f2))) (fun _ hk => hk.2) (.int .i64 ((rd_T47 l0 x15_1).f3))) (fun _ h_ => h_.1))))) (zN (by repeat (first | (with_reducible first | exact HB.out | apply zA | apply zB | apply zC | refine zD ?_ GE164.out) | exact HB.out)))); have n2_ := zK (zM (g := gb164) (o := .cells #[.string ((rd_T47 l0 x15_1).f0), .int .i64 ((rd_T47 l0 x15_1).f1), .int .i64 ((rd_T47 l0 x15_1).f2), .int .i64 ((rd_T47 l0 x15_1).f3)] 47 (0, 0)) (by (with_reducible repeat (first | refine zE ?_ _ | refine zF ?_ | refine zG ?_ _)); refine blk_put (cs := #[.string ((rd_T47 l0 x15_1).f0), .int .i64 ((rd_T47 l0 x15_1).f1), .int .i64 ((rd_T47 l0 x15_1).f2), .int .i64 0]) ?_ 3 _ rfl; (with_reducible repeat (first | refine zE ?_ _ | refine zF ?_ | refine zG ?_ _)); refine blk_put (cs := #[.string ((rd_T47 l0 x15_1).f0), .int .i64 ((rd_T47 l0 x15_1).f1), .int .i64 0, .int .i64 0]) ?_ 2 _ rfl; (with_reducible repeat (first | refine zE ?_ _ | refine zF ?_ | refine zG ?_ _)); refine blk_put (cs := #[.string ((rd_T47 l0 x15_1).f0), .int .i64 0, .int .i64 0, .int .i64 0]) ?_ 1 _ rfl; (with_reducible repeat (first | refine zE ?_ _ | refine zF ?_ | refine zG ?_ _)); refine blk_put (cs := #[.string (⟨#[]⟩ : ByteArray), .int .i64 0, .int .i64 0, .int .i64 0]) ?_ 0 _ rfl; (with_reducible repeat (first | refine zE ?_ _ | refine zF ?_ | refine zG ?_ _)); exact BK164.out) hb); have n3_ := zK (zL (by repeat (first | (with_reducible first | exact HB.out | apply zA | apply zB | apply zC | refine zD ?_ GE164.out) | exact HB.out)) hb); clear HO_7; clear BK164; clear HB; have HO_7 := n0_; have HO167 := n1_; have BK164 := n2_; have HB := n3_; clear n0_ n1_ n2_ n3_; clear hb ho19; have hcz20_0 : w18.cell? ⟨gb164, 0, none⟩ = some (.string ((rd_T47 l0 x15_1).f0)) := (zI BK164.out 0).trans rfl; have hcz20_1 : w18.cell? ⟨gb164, 1, none⟩ = some (.int .i64 ((rd_T47 l0 x15_1).f1)) := (zI BK164.out 1).trans rfl; have hcz20_2 : w18.cell? ⟨gb164, 2, none⟩ = some (.int .i64 ((rd_T47 l0 x15_1).f2)) := (zI BK164.out 2).trans rfl; have hcz20_3 : w18.cell? ⟨gb164, 3, none⟩ = some (.int .i64 ((rd_T47 l0 x15_1).f3)) := (zI BK164.out 3).trans rfl; have hfz20_0 := zH BK164.out 0; have hfz20_1 := zH BK164.out 1; have hfz20_2 := zH BK164.out 2; have hfz20_3 := zH BK164.out 3; obtain ⟨Ao21, co21, eo21⟩ := Kd.R_slice HO167.out; subst eo21; have p168 : 0 ≤ (((rd_T47 l0 x15_1).f3) : Int) := zo; have q168 : ((rd_T47 l0 x15_1).f3) < (y165.length : Int) := zo; obtain ⟨ad168, e168, hx168_0⟩ := Kd.at_int (Kd.R_reads' HO167.out).2.2 ((rd_T47 l0 x15_1).f3) p168 q168; cases e168; replace p168 := eq_true p168; replace q168 := eq_true q168; have p15 : 0 ≤ (x15_1 : Int) := zo; have q15 : (x15_1 : Int) < ((x7_1.length : Int) : Int) := zo; obtain ⟨go15, co15, eo15, gb15, gl15, cl15, HG15⟩ := Kd.R_form HO_7.out (by omega); (first | cases eo15 | (injection eo15 with ea_ en_ ec_; (first | subst ea_ | (injection ea_ with ea_; subst ea_)); subst ec_; clear en_)); have GB15 := zK gb15; have GG15 := zK HG15; clear gb15 gl15 HG15; obtain ⟨hx15_0, hf15_0⟩ := Kd.R_celln 0 HO_7.out (x15_1 : Int) p15 q15; replace p15 := eq_true p15; replace q15 := eq_true q15; have n_ := zK (Kd.R_mono (ok' := (fun k_ => some k_ ≠ (.slice (some ad168) y165.length co21 : Value).ownBlock)) HO_7.out (fun k_ hk => hk.2)); clear HO_7; have HO_7 := n_; clear n_; obtain ⟨hy22_, hz22_⟩ := Kd.R_celln 0 HO_7.out (x15_1 : Int) (zo) (zo); have HP22 := Kd.R_putg HO_7.out (x15_1 : Int) (rd y165 ((rd_T47 l0 x15_1).f3))) | ((with_reducible refine gate_store (t := 3) (p := 49) rfl ?_); refine store_event (t := 3) (p := 49) (v := ?vo_w23) (w1 := (w18.setCell ⟨go15, (x15_1 : Int).toNat, none⟩ (.int .i64 (rd y165 ((rd_T47 l0 x15_1).f3))))) ?hg ?ho ?hn ?hr ?_; (case ho => rfl); (case hg => rfl); (case hn => rfl); (case hr => first | (go_simp; done) | (go_simp; rfl)); intro w23 hw; have hg : w18.grownBy w23 (some go15) := (by rw [hw]; exact HP22.2); have hp_ : Kd.R (Kd.int .i64) 3 w23 w.heap.size (fun k_ => some k_ ≠ (.slice (some ad168) y165.length co21 : Value).ownBlock) (.slice (some ⟨go15, 0, none⟩) x7_1.length co15) y169 := (by rw [hw, Ny169.out]; exact HP22.1); clear HP22; have n0_ := zK (hp_); have n1_ := zK (blk_grown (g := gb164) (o := .cells #[.string ((rd_T47 l0 x15_1).f0), .int .i64 ((rd_T47 l0 x15_1).f1), .int .i64 ((rd_T47 l0 x15_1).f2), .int .i64 ((rd_T47 l0 x15_1).f3)] 47 (0, 0)) (by (with_reducible repeat (first | refine zE ?_ _ | refine zF ?_ | refine zG ?_ _)); exact BK164.out) hg (Kd.R_ne HO_7.out BK164.out (by decide))); have n2_ := zK (Kd.R_after (v := (.slice (some ⟨go15, 0, none⟩) x7_1.length co15)) (v1 := (.slice (some ⟨go15, 0, none⟩) x7_1.length co15)) (ok := (fun _ => True)) (by (with_reducible repeat (first | apply Kd.R_alloc | apply Kd.R_drewN | apply Kd.R_drew)); exact HO167.out) hg (.inl rfl)); have n3_ := zK ((by rw [hw]; exact zD (HB.out) GB15.out : Below w.heap.size w w23)); clear HO_7; clear BK164; clear HO167; clear HB; have HO_7 := n0_; have BK164 := n1_; have HO167 := n2_; have HB := n3_; clear n0_ n1_ n2_ n3_; clear hg hw hp_))
            go_roundg k1
            case measure => have := HK1.out; omega
            case rel => exact ⟨(y169), (wrap64 (x15_1 + 1)), (by first | rfl | (simp; done) | (simp [*]; done)), H', ⟨by have := HK1.out; omega⟩, ⟨by (with_reducible repeat (first | apply Kd.R_alloc | apply Kd.R_drewN | apply Kd.R_drew)); exact Kd.R_mono HO_7.out (fun _ hk => trivial)⟩, ⟨by repeat (first | (with_reducible first | exact HB.out | apply zA | apply zB | apply zC | refine zD ?_ GE164.out) | exact HB.out)⟩⟩
           ·rw [if_neg c14] at H
            exact absurd H (by simp)
          ·rw [if_neg c13] at H
           exact absurd H (by simp)
         ·rw [if_neg c12] at H
          exact absurd H (by simp)
        ·rw [if_neg c11] at H
         have c11b0 : (((rd_T47 l0 x15_1).f0).toList == ([105, 110] : List UInt8)) = false := beq_eq_false_iff_ne.mpr c11
         have c11b1 : (((rd_T47 l0 x15_1).f0).toList != ([105, 110] : List UInt8)) = true := bne_iff_ne.mpr c11
         by_cases c24 : ((rd_T47 l0 x15_1).f0).toList = ([99, 111, 110, 115, 116] : List UInt8)
         ·rw [if_pos c24] at H
          have c24b0 : (((rd_T47 l0 x15_1).f0).toList == ([99, 111, 110, 115, 116] : List UInt8)) = true := beq_iff_eq.mpr c24
          have c24b1 : (((rd_T47 l0 x15_1).f0).toList != ([99, 111, 110, 115, 116] : List UInt8)) = false := bne_eq_false_iff_eq.mpr c24
          clear c24
          by_cases c25 : x15_1 < (x7_1.length : Int)
          ·rw [if_pos c25] at H
           have c25b0 : decide (x15_1 < (x7_1.length : Int)) = true := decide_eq_true c25
           clear c25
           obtain ⟨y170, hy170⟩ : ∃ y_ : List Int, y_ = (x7_1.set (x15_1 : Int).toNat ((rd_T47 l0 x15_1).f3)) := ⟨_, rfl⟩
           replace H : (impl_values.l0 k1 a1 a2 y170 l0 (l0.length : Int) (wrap64 (x15_1 + 1))) = some r := by first | (rw [hy170]; with_reducible exact H) | (have H2_ := (Option.bind_some _ _).symm.trans H; rw [hy170]; with_reducible exact H2_) | (have H2_ := (Option.bind_some _ _).symm.trans H; with_reducible exact H2_) | with_reducible exact H | (rw [hy170]; exact H) | exact H
           have Ny170 := zK hy170
           clear hy170
           have H' := zK H
           clear H
           have p163 : 0 ≤ (x15_1 : Int) := zo
           have q163 : x15_1 < (l0.length : Int) := zo
           obtain ⟨ad163, e163, hx163_0, hx163_1, hx163_2, hx163_3⟩ := at_T47 HR0.out x15_1 p163 q163
           cases e163
           replace hx163_0 := zt HB.out hx163_0
           replace hx163_1 := zt HB.out hx163_1
           replace hx163_2 := zt HB.out hx163_2
           replace hx163_3 := zt HB.out hx163_3
           replace p163 := eq_true p163
           replace q163 := eq_true q163
           go_wp2_with (first | ((with_reducible refine gate_dst (N := 9) rfl ?_); refine box_event ?hg (N := 9) ?hd (cs := #[.string (⟨#[]⟩ : ByteArray), .int .i64 0, .int .i64 0, .int .i64 0]) (t := 47) ?hr ?_; (case hd => rfl); (case hg => rfl); (case hr => first | (go_simp; done) | (go_simp; rfl)); intro gb164 hg w27 hbox hb; have n0_ := zK (Kd.R_below (by (with_reducible repeat (first | apply Kd.R_alloc | apply Kd.R_drewN | apply Kd.R_drew)); exact HO_7.out) hb); have n1_ := zK (zL (by repeat (first | (with_reducible first | exact HB.out | apply zA | apply zB | apply zC) | exact HB.out)) hb); have n2_ := zK (hbox); have n3_ := zK ((by rw [hg]; exact (zN (by repeat (first | (with_reducible first | exact HB.out | apply zA | apply zB | apply zC) | exact HB.out))) : w.heap.size ≤ gb164)); have n4_ := zK ((by rw [hg]; exact (zN (by repeat (first | (with_reducible first | exact HB.out | apply zA | apply zB | apply zC) | exact HB.out))) : w.heap.size ≤ gb164)); clear HO_7; clear HB; have HO_7 := n0_; have HB := n1_; have BK164 := n2_; have GW164 := n3_; have GE164 := n4_; clear n0_ n1_ n2_ n3_ n4_; clear hb hbox hg; have hcz28_0 : w27.cell? ⟨gb164, 0, none⟩ = some (.string (⟨#[]⟩ : ByteArray)) := (zI BK164.out 0).trans rfl; have hcz28_1 : w27.cell? ⟨gb164, 1, none⟩ = some (.int .i64 0) := (zI BK164.out 1).trans rfl; have hcz28_2 : w27.cell? ⟨gb164, 2, none⟩ = some (.int .i64 0) := (zI BK164.out 2).trans rfl; have hcz28_3 : w27.cell? ⟨gb164, 3, none⟩ = some (.int .i64 0) := (zI BK164.out 3).trans rfl; have hfz28_0 := zH BK164.out 0; have hfz28_1 := zH BK164.out 1; have hfz28_2 := zH BK164.out 2; have hfz28_3 := zH BK164.out 3) | ((with_reducible refine gate_store (t := 47) (p := 9) rfl ?_); refine store_event (t := 47) (p := 9) (v := ?vo_w29) (w1 := ((((w27.setCell ⟨gb164, 0, none⟩ (.string ((rd_T47 l0 x15_1).f0))).setCell ⟨gb164, 1, none⟩ (.int .i64 ((rd_T47 l0 x15_1).f1))).setCell ⟨gb164, 2, none⟩ (.int .i64 ((rd_T47 l0 x15_1).f2))).setCell ⟨gb164, 3, none⟩ (.int .i64 ((rd_T47 l0 x15_1).f3)))) ?hg ?ho ?hn ?hr ?_; (case ho => rfl); (case hg => rfl); (case hn => rfl); (case hr => first | (go_simp; done) | (go_simp; rfl)); intro w29 hw; have n0_ : Aside0 (Kd.R (Kd.int .i64) 3 w29 w.heap.size (fun _ => True) v161 x7_1) := ⟨(by rw [hw]; exact (by (with_reducible repeat (first | apply Kd.R_alloc | apply Kd.R_drewN | apply Kd.R_drew)); exact Kd.R_mono (Kd.R_far (p := ⟨gb164, 3, none⟩) (Kd.R_far (p := ⟨gb164, 2, none⟩) (Kd.R_far (p := ⟨gb164, 1, none⟩) (Kd.R_far (p := ⟨gb164, 0, none⟩) (Kd.R_types HO_7.out BK164.out (by decide)) (fun _ hk => hk.2) (.string ((rd_T47 l0 x15_1).f0))) (fun _ hk => hk.2) (.int .i64 ((rd_T47 l0 x15_1).f1))) (fun _ hk => hk.2) (.int .i64 ((rd_T47 l0 x15_1).f2))) (fun _ hk => hk.2) (.int .i64 ((rd_T47 l0 x15_1).f3))) (fun _ hk => trivial)))⟩; have n1_ : Aside0 (w29.heap[gb164]? = some (.cells #[.string ((rd_T47 l0 x15_1).f0), .int .i64 ((rd_T47 l0 x15_1).f1), .int .i64 ((rd_T47 l0 x15_1).f2), .int .i64 ((rd_T47 l0 x15_1).f3)] 47 (0, 0))) := ⟨(by rw [hw]; exact (by (with_reducible repeat (first | refine zE ?_ _ | refine zF ?_ | refine zG ?_ _)); refine blk_put (cs := #[.string ((rd_T47 l0 x15_1).f0), .int .i64 ((rd_T47 l0 x15_1).f1), .int .i64 ((rd_T47 l0 x15_1).f2), .int .i64 0]) ?_ 3 _ rfl; (with_reducible repeat (first | refine zE ?_ _ | refine zF ?_ | refine zG ?_ _)); refine blk_put (cs := #[.string ((rd_T47 l0 x15_1).f0), .int .i64 ((rd_T47 l0 x15_1).f1), .int .i64 0, .int .i64 0]) ?_ 2 _ rfl; (with_reducible repeat (first | refine zE ?_ _ | refine zF ?_ | refine zG ?_ _)); refine blk_put (cs := #[.string ((rd_T47 l0 x15_1).f0), .int .i64 0, .int .i64 0, .int .i64 0]) ?_ 1 _ rfl; (with_reducible repeat (first | refine zE ?_ _ | refine zF ?_ | refine zG ?_ _)); refine blk_put (cs := #[.string (⟨#[]⟩ : ByteArray), .int .i64 0, .int .i64 0, .int .i64 0]) ?_ 0 _ rfl; (with_reducible repeat (first | refine zE ?_ _ | refine zF ?_ | refine zG ?_ _)); exact BK164.out))⟩; have n2_ : Aside0 (Below w.heap.size w w29) := ⟨(by rw [hw]; exact (by repeat (first | (with_reducible first | exact HB.out | apply zA | apply zB | apply zC | refine zD ?_ GE164.out) | exact HB.out)))⟩; clear hw; clear HO_7; clear BK164; clear HB; have HO_7 := n0_; have BK164 := n1_; have HB := n2_; clear n0_ n1_ n2_; have hcz30_0 : w29.cell? ⟨gb164, 0, none⟩ = some (.string ((rd_T47 l0 x15_1).f0)) := (zI BK164.out 0).trans rfl; have hcz30_1 : w29.cell? ⟨gb164, 1, none⟩ = some (.int .i64 ((rd_T47 l0 x15_1).f1)) := (zI BK164.out 1).trans rfl; have hcz30_2 : w29.cell? ⟨gb164, 2, none⟩ = some (.int .i64 ((rd_T47 l0 x15_1).f2)) := (zI BK164.out 2).trans rfl; have hcz30_3 : w29.cell? ⟨gb164, 3, none⟩ = some (.int .i64 ((rd_T47 l0 x15_1).f3)) := (zI BK164.out 3).trans rfl; have hfz30_0 := zH BK164.out 0; have hfz30_1 := zH BK164.out 1; have hfz30_2 := zH BK164.out 2; have hfz30_3 := zH BK164.out 3; have p26 : 0 ≤ (x15_1 : Int) := zo; have q26 : (x15_1 : Int) < ((x7_1.length : Int) : Int) := zo; obtain ⟨go26, co26, eo26, gb26, gl26, cl26, HG26⟩ := Kd.R_form HO_7.out (by omega); (first | cases eo26 | (injection eo26 with ea_ en_ ec_; (first | subst ea_ | (injection ea_ with ea_; subst ea_)); subst ec_; clear en_)); have GB26 := zK gb26; have GG26 := zK HG26; clear gb26 gl26 HG26; obtain ⟨hx26_0, hf26_0⟩ := Kd.R_celln 0 HO_7.out (x15_1 : Int) p26 q26; replace p26 := eq_true p26; replace q26 := eq_true q26; obtain ⟨hy31_, hz31_⟩ := Kd.R_celln 0 HO_7.out (x15_1 : Int) (zo) (zo); have HP31 := Kd.R_putg HO_7.out (x15_1 : Int) ((rd_T47 l0 x15_1).f3)) | ((with_reducible refine gate_store (t := 3) (p := 56) rfl ?_); refine store_event (t := 3) (p := 56) (v := ?vo_w32) (w1 := (w29.setCell ⟨go26, (x15_1 : Int).toNat, none⟩ (.int .i64 ((rd_T47 l0 x15_1).f3)))) ?hg ?ho ?hn ?hr ?_; (case ho => rfl); (case hg => rfl); (case hn => rfl); (case hr => first | (go_simp; done) | (go_simp; rfl)); intro w32 hw; have hg : w29.grownBy w32 (some go26) := (by rw [hw]; exact HP31.2); have hp_ : Kd.R (Kd.int .i64) 3 w32 w.heap.size (fun _ => True) (.slice (some ⟨go26, 0, none⟩) x7_1.length co26) y170 := (by rw [hw, Ny170.out]; exact HP31.1); clear HP31; have n0_ := zK (hp_); have n1_ := zK (blk_grown (g := gb164) (o := .cells #[.string ((rd_T47 l0 x15_1).f0), .int .i64 ((rd_T47 l0 x15_1).f1), .int .i64 ((rd_T47 l0 x15_1).f2), .int .i64 ((rd_T47 l0 x15_1).f3)] 47 (0, 0)) (by (with_reducible repeat (first | refine zE ?_ _ | refine zF ?_ | refine zG ?_ _)); exact BK164.out) hg (Kd.R_ne HO_7.out BK164.out (by decide))); have n2_ := zK ((by rw [hw]; exact zD (HB.out) GB26.out : Below w.heap.size w w32)); clear HO_7; clear BK164; clear HB; have HO_7 := n0_; have BK164 := n1_; have HB := n2_; clear n0_ n1_ n2_; clear hg hw hp_))
           go_roundg k1
           case measure => have := HK1.out; omega
           case rel => exact ⟨(y170), (wrap64 (x15_1 + 1)), (by first | rfl | (simp; done) | (simp [*]; done)), H', ⟨by have := HK1.out; omega⟩, ⟨by (with_reducible repeat (first | apply Kd.R_alloc | apply Kd.R_drewN | apply Kd.R_drew)); exact HO_7.out⟩, ⟨by repeat (first | (with_reducible first | exact HB.out | apply zA | apply zB | apply zC | refine zD ?_ GE164.out) | exact HB.out)⟩⟩
          ·rw [if_neg c25] at H
           exact absurd H (by simp)
         ·rw [if_neg c24] at H
          have c24b0 : (((rd_T47 l0 x15_1).f0).toList == ([99, 111, 110, 115, 116] : List UInt8)) = false := beq_eq_false_iff_ne.mpr c24
          have c24b1 : (((rd_T47 l0 x15_1).f0).toList != ([99, 111, 110, 115, 116] : List UInt8)) = true := bne_iff_ne.mpr c24
          by_cases c33 : 0 ≤ ((rd_T47 l0 x15_1).f1)
          ·rw [if_pos c33] at H
           have c33b0 : decide (0 ≤ ((rd_T47 l0 x15_1).f1)) = true := decide_eq_true c33
           clear c33
           by_cases c34 : ((rd_T47 l0 x15_1).f1) < (x7_1.length : Int)
           ·rw [if_pos c34] at H
            have c34b0 : decide (((rd_T47 l0 x15_1).f1) < (x7_1.length : Int)) = true := decide_eq_true c34
            clear c34
            by_cases c35 : 0 ≤ ((rd_T47 l0 x15_1).f2)
            ·rw [if_pos c35] at H
             have c35b0 : decide (0 ≤ ((rd_T47 l0 x15_1).f2)) = true := decide_eq_true c35
             clear c35
             by_cases c36 : ((rd_T47 l0 x15_1).f2) < (x7_1.length : Int)
             ·rw [if_pos c36] at H
              have c36b0 : decide (((rd_T47 l0 x15_1).f2) < (x7_1.length : Int)) = true := decide_eq_true c36
              clear c36
              replace H := Option.bind_eq_some_iff.mp H
              obtain ⟨t173, A370, H⟩ := H
              replace H : (if x15_1 < (x7_1.length : Int) then (impl_values.l0 k1 a1 a2 (x7_1.set (x15_1 : Int).toNat t173) l0 (l0.length : Int) (wrap64 (x15_1 + 1))) else (none)) = some r := H
              have A37 := zK A370
              clear A370
              by_cases c38 : x15_1 < (x7_1.length : Int)
              ·rw [if_pos c38] at H
               have c38b0 : decide (x15_1 < (x7_1.length : Int)) = true := decide_eq_true c38
               clear c38
               obtain ⟨y174, hy174⟩ : ∃ y_ : List Int, y_ = (x7_1.set (x15_1 : Int).toNat t173) := ⟨_, rfl⟩
               replace H : (impl_values.l0 k1 a1 a2 y174 l0 (l0.length : Int) (wrap64 (x15_1 + 1))) = some r := by first | (rw [hy174]; with_reducible exact H) | (have H2_ := (Option.bind_some _ _).symm.trans H; rw [hy174]; with_reducible exact H2_) | (have H2_ := (Option.bind_some _ _).symm.trans H; with_reducible exact H2_) | with_reducible exact H | (rw [hy174]; exact H) | exact H
               have Ny174 := zK hy174
               clear hy174
               have H' := zK H
               clear H
               have p163 : 0 ≤ (x15_1 : Int) := zo
               have q163 : x15_1 < (l0.length : Int) := zo
               obtain ⟨ad163, e163, hx163_0, hx163_1, hx163_2, hx163_3⟩ := at_T47 HR0.out x15_1 p163 q163
               cases e163
               replace hx163_0 := zt HB.out hx163_0
               replace hx163_1 := zt HB.out hx163_1
               replace hx163_2 := zt HB.out hx163_2
               replace hx163_3 := zt HB.out hx163_3
               replace p163 := eq_true p163
               replace q163 := eq_true q163
               try go_wp2_with (first | ((with_reducible refine gate_dst (N := 9) rfl ?_); refine box_event ?hg (N := 9) ?hd (cs := #[.string (⟨#[]⟩ : ByteArray), .int .i64 0, .int .i64 0, .int .i64 0]) (t := 47) ?hr ?_; (case hd => rfl); (case hg => rfl); (case hr => first | (go_simp; done) | (go_simp; rfl)); intro gb164 hg w40 hbox hb; have n0_ := zK (Kd.R_below (by (with_reducible repeat (first | apply Kd.R_alloc | apply Kd.R_drewN | apply Kd.R_drew)); exact HO_7.out) hb); have n1_ := zK (zL (by repeat (first | (with_reducible first | exact HB.out | apply zA | apply zB | apply zC) | exact HB.out)) hb); have n2_ := zK (hbox); have n3_ := zK ((by rw [hg]; exact (zN (by repeat (first | (with_reducible first | exact HB.out | apply zA | apply zB | apply zC) | exact HB.out))) : w.heap.size ≤ gb164)); have n4_ := zK ((by rw [hg]; exact (zN (by repeat (first | (with_reducible first | exact HB.out | apply zA | apply zB | apply zC) | exact HB.out))) : w.heap.size ≤ gb164)); clear HO_7; clear HB; have HO_7 := n0_; have HB := n1_; have BK164 := n2_; have GW164 := n3_; have GE164 := n4_; clear n0_ n1_ n2_ n3_ n4_; clear hb hbox hg; have hcz41_0 : w40.cell? ⟨gb164, 0, none⟩ = some (.string (⟨#[]⟩ : ByteArray)) := (zI BK164.out 0).trans rfl; have hcz41_1 : w40.cell? ⟨gb164, 1, none⟩ = some (.int .i64 0) := (zI BK164.out 1).trans rfl; have hcz41_2 : w40.cell? ⟨gb164, 2, none⟩ = some (.int .i64 0) := (zI BK164.out 2).trans rfl; have hcz41_3 : w40.cell? ⟨gb164, 3, none⟩ = some (.int .i64 0) := (zI BK164.out 3).trans rfl; have hfz41_0 := zH BK164.out 0; have hfz41_1 := zH BK164.out 1; have hfz41_2 := zH BK164.out 2; have hfz41_3 := zH BK164.out 3))
               have n0_ : Aside0 (Kd.R (Kd.int .i64) 3 ((((w40.setCell ⟨gb164, 0, none⟩ (.string ((rd_T47 l0 x15_1).f0))).setCell ⟨gb164, 1, none⟩ (.int .i64 ((rd_T47 l0 x15_1).f1))).setCell ⟨gb164, 2, none⟩ (.int .i64 ((rd_T47 l0 x15_1).f2))).setCell ⟨gb164, 3, none⟩ (.int .i64 ((rd_T47 l0 x15_1).f3))) w.heap.size (fun _ => True) v161 x7_1) := ⟨by (with_reducible repeat (first | apply Kd.R_alloc | apply Kd.R_drewN | apply Kd.R_drew)); exact Kd.R_mono (Kd.R_far (p := ⟨gb164, 3, none⟩) (Kd.R_far (p := ⟨gb164, 2, none⟩) (Kd.R_far (p := ⟨gb164, 1, none⟩) (Kd.R_far (p := ⟨gb164, 0, none⟩) (Kd.R_types HO_7.out BK164.out (by decide)) (fun _ hk => hk.2) (.string ((rd_T47 l0 x15_1).f0))) (fun _ hk => hk.2) (.int .i64 ((rd_T47 l0 x15_1).f1))) (fun _ hk => hk.2) (.int .i64 ((rd_T47 l0 x15_1).f2))) (fun _ hk => hk.2) (.int .i64 ((rd_T47 l0 x15_1).f3))) (fun _ hk => trivial)⟩
               have n1_ : Aside0 (((((w40.setCell ⟨gb164, 0, none⟩ (.string ((rd_T47 l0 x15_1).f0))).setCell ⟨gb164, 1, none⟩ (.int .i64 ((rd_T47 l0 x15_1).f1))).setCell ⟨gb164, 2, none⟩ (.int .i64 ((rd_T47 l0 x15_1).f2))).setCell ⟨gb164, 3, none⟩ (.int .i64 ((rd_T47 l0 x15_1).f3))).heap[gb164]? = some (.cells #[.string ((rd_T47 l0 x15_1).f0), .int .i64 ((rd_T47 l0 x15_1).f1), .int .i64 ((rd_T47 l0 x15_1).f2), .int .i64 ((rd_T47 l0 x15_1).f3)] 47 (0, 0))) := ⟨by (with_reducible repeat (first | refine zE ?_ _ | refine zF ?_ | refine zG ?_ _)); refine blk_put (cs := #[.string ((rd_T47 l0 x15_1).f0), .int .i64 ((rd_T47 l0 x15_1).f1), .int .i64 ((rd_T47 l0 x15_1).f2), .int .i64 0]) ?_ 3 _ rfl; (with_reducible repeat (first | refine zE ?_ _ | refine zF ?_ | refine zG ?_ _)); refine blk_put (cs := #[.string ((rd_T47 l0 x15_1).f0), .int .i64 ((rd_T47 l0 x15_1).f1), .int .i64 0, .int .i64 0]) ?_ 2 _ rfl; (with_reducible repeat (first | refine zE ?_ _ | refine zF ?_ | refine zG ?_ _)); refine blk_put (cs := #[.string ((rd_T47 l0 x15_1).f0), .int .i64 0, .int .i64 0, .int .i64 0]) ?_ 1 _ rfl; (with_reducible repeat (first | refine zE ?_ _ | refine zF ?_ | refine zG ?_ _)); refine blk_put (cs := #[.string (⟨#[]⟩ : ByteArray), .int .i64 0, .int .i64 0, .int .i64 0]) ?_ 0 _ rfl; (with_reducible repeat (first | refine zE ?_ _ | refine zF ?_ | refine zG ?_ _)); exact BK164.out⟩
               have n2_ : Aside0 (Below w.heap.size w ((((w40.setCell ⟨gb164, 0, none⟩ (.string ((rd_T47 l0 x15_1).f0))).setCell ⟨gb164, 1, none⟩ (.int .i64 ((rd_T47 l0 x15_1).f1))).setCell ⟨gb164, 2, none⟩ (.int .i64 ((rd_T47 l0 x15_1).f2))).setCell ⟨gb164, 3, none⟩ (.int .i64 ((rd_T47 l0 x15_1).f3)))) := ⟨by repeat (first | (with_reducible first | exact HB.out | apply zA | apply zB | apply zC | refine zD ?_ GE164.out) | exact HB.out)⟩
               (try clear HO_7)
               (try clear BK164)
               (try clear HB)
               generalize ((((w40.setCell ⟨gb164, 0, none⟩ (.string ((rd_T47 l0 x15_1).f0))).setCell ⟨gb164, 1, none⟩ (.int .i64 ((rd_T47 l0 x15_1).f1))).setCell ⟨gb164, 2, none⟩ (.int .i64 ((rd_T47 l0 x15_1).f2))).setCell ⟨gb164, 3, none⟩ (.int .i64 ((rd_T47 l0 x15_1).f3))) = w42 at n0_ n1_ n2_ ⊢
               have HO_7 := n0_
               have BK164 := n1_
               have HB := n2_
               clear n0_ n1_ n2_
               have n0_ := zK (Kd.R_drew HO_7.out)
               have n1_ := zK (zF BK164.out)
               have n2_ := zK (zC HB.out)
               clear HO_7
               clear BK164
               clear HB
               have HO_7 := n0_
               have BK164 := n1_
               have HB := n2_
               clear n0_ n1_ n2_
               obtain ⟨Ao44, co44, eo44⟩ := Kd.R_slice HO_7.out
               (first | subst eo44 | (injection eo44 with f1_ f2_ f3_; have f4_ := f1_.symm; have f5_ := f3_.symm; clear f1_ f2_ f3_; subst f4_; subst f5_))
               have p171 : 0 ≤ (((rd_T47 l0 x15_1).f1) : Int) := zo
               have q171 : ((rd_T47 l0 x15_1).f1) < (x7_1.length : Int) := zo
               obtain ⟨ad171, e171, hx171_0⟩ := Kd.at_int (Kd.R_reads' HO_7.out).2.2 ((rd_T47 l0 x15_1).f1) p171 q171
               cases e171
               replace p171 := eq_true p171
               replace q171 := eq_true q171
               have p172 : 0 ≤ (((rd_T47 l0 x15_1).f2) : Int) := zo
               have q172 : ((rd_T47 l0 x15_1).f2) < (x7_1.length : Int) := zo
               obtain ⟨ad172, e172, hx172_0⟩ := Kd.at_int (Kd.R_reads' HO_7.out).2.2 ((rd_T47 l0 x15_1).f2) p172 q172
               obtain rfl : ad171 = ad172 := (by injection e172)
               replace p172 := eq_true p172
               replace q172 := eq_true q172
               refine start_ (n := 17) (S := fun w' => w'.cell? ⟨gb164, 0, none⟩ = some (.string ((rd_T47 l0 x15_1).f0)) ∧ w'.cell? ⟨gb164, 1, none⟩ = some (.int .i64 ((rd_T47 l0 x15_1).f1)) ∧ w'.cell? ⟨gb164, 2, none⟩ = some (.int .i64 ((rd_T47 l0 x15_1).f2)) ∧ w'.cell? ⟨gb164, 3, none⟩ = some (.int .i64 ((rd_T47 l0 x15_1).f3)) ∧ w'.cell? (ad171.add (((rd_T47 l0 x15_1).f1)).toNat) = some (.int .i64 (rd x7_1 ((rd_T47 l0 x15_1).f1))) ∧ w'.cell? (ad171.add (((rd_T47 l0 x15_1).f2)).toNat) = some (.int .i64 (rd x7_1 ((rd_T47 l0 x15_1).f2)))) (ds := [16]) #[false, false, false, false, false, false, false, false, false, false, false, false, false, false, false, false, false] (by kernel_rfl) rfl rfl ⟨(zI BK164.out 0).trans rfl, (zI BK164.out 1).trans rfl, (zI BK164.out 2).trans rfl, (zI BK164.out 3).trans rfl, hx171_0, hx172_0⟩ (fun hHeld => ?_); refine with_tabW impl_values.tab6 impl_values.bits6 (fun HT_ HW_ => ?_)
               generalize w42.drew = w43 at HO_7 BK164 HB hx171_0 hx172_0 hHeld ⊢
               refine pure_ (i := 0) (N := some 22) (v := ?_) (a' := ?_) #[true, false, false, false, false, false, false, false, false, false, false, false, false, false, false, false, false] rfl rfl (any_of HT_.out (by kernel_rfl)) (fun _ _ _ h => h) (Or.inl ⟨by rfl, ?_⟩) ?_ ?_
               rotate_left
               ·intro w'
                go_simp
                with_reducible rfl
               rotate_left
               ·simp only [Act.put, z1, z2, z3, i64_w, i32_w]
                rfl
               refine pure_ (i := 1) (N := some 23) (v := ?_) (a' := ?_) #[true, true, false, false, false, false, false, false, false, false, false, false, false, false, false, false, false] rfl rfl (any_of HT_.out (by kernel_rfl)) (fun _ _ _ h => h) (Or.inl ⟨by rfl, ?_⟩) ?_ ?_
               rotate_left
               ·intro w'
                go_simp
                with_reducible rfl
               rotate_left
               ·simp only [Act.put, z1, z2, z3, i64_w, i32_w]
                rfl
               refine pure_ (i := 2) (N := some 24) (v := ?_) (a' := ?_) #[true, true, true, false, false, false, false, false, false, false, false, false, false, false, false, false, false] rfl rfl (any_of HT_.out (by kernel_rfl)) (fun _ _ _ h => h) (Or.inl ⟨by rfl, ?_⟩) ?_ ?_
               rotate_left
               ·intro w'
                go_simp
                with_reducible rfl
               rotate_left
               ·simp only [Act.put, z1, z2, z3, i64_w, i32_w]
                rfl
               refine pure_ (i := 4) (N := some 26) (v := ?_) (a' := ?_) #[true, true, true, false, true, false, false, false, false, false, false, false, false, false, false, false, false] rfl rfl (any_of HT_.out (by kernel_rfl)) (fun _ _ _ h => h) (Or.inl ⟨by rfl, ?_⟩) ?_ ?_
               rotate_left
               ·intro w'
                go_simp
                with_reducible rfl
               rotate_left
               ·simp only [Act.put, z1, z2, z3, i64_w, i32_w]
                rfl
               refine pure_ (i := 5) (N := some 27) (v := ?_) (a' := ?_) #[true, true, true, false, true, true, false, false, false, false, false, false, false, false, false, false, false] rfl rfl (any_of HT_.out (by kernel_rfl)) (fun _ _ _ h => h) (Or.inl ⟨by rfl, ?_⟩) ?_ ?_
               rotate_left
               ·intro w'
                go_simp
                with_reducible rfl
               rotate_left
               ·simp only [Act.put, z1, z2, z3, i64_w, i32_w]
                rfl
               refine pure_ (i := 9) (N := some 31) (v := ?_) (a' := ?_) #[true, true, true, false, true, true, false, false, false, true, false, false, false, false, false, false, false] rfl rfl (any_of HT_.out (by kernel_rfl)) (fun _ _ _ h => h) (Or.inl ⟨by rfl, ?_⟩) ?_ ?_
               rotate_left
               ·intro w'
                go_simp
                with_reducible rfl
               rotate_left
               ·simp only [Act.put, z1, z2, z3, i64_w, i32_w]
                rfl
               refine pure_ (i := 10) (N := some 32) (v := ?_) (a' := ?_) #[true, true, true, false, true, true, false, false, false, true, true, false, false, false, false, false, false] rfl rfl (any_of HT_.out (by kernel_rfl)) (fun _ _ _ h => h) (Or.inl ⟨by rfl, ?_⟩) ?_ ?_
               rotate_left
               ·intro w'
                go_simp
                with_reducible rfl
               rotate_left
               ·simp only [Act.put, z1, z2, z3, i64_w, i32_w]
                rfl
               refine take_ (i := 3) (N := some 25) (v := ?_) (a' := ?_) #[true, true, true, true, true, true, false, false, false, true, true, false, false, false, false, false, false] rfl rfl (take_ofW HT_.out HW_.out (by kernel_rfl)) (fun _ _ _ h => h) (Or.inl ⟨by rfl, ?_⟩) hHeld ?_ ?_
               rotate_left
               ·rintro w' ⟨s0, s1, s2, s3, s4, s5⟩
                go_simp
                with_reducible rfl
               rotate_left
               ·simp only [Act.put, z1, z2, z3, i64_w, i32_w]
                rfl
               refine take_ (i := 6) (N := some 28) (v := ?_) (a' := ?_) #[true, true, true, true, true, true, true, false, false, true, true, false, false, false, false, false, false] rfl rfl (take_ofW HT_.out HW_.out (by kernel_rfl)) (fun _ _ _ h => h) (Or.inl ⟨by rfl, ?_⟩) hHeld ?_ ?_
               rotate_left
               ·rintro w' ⟨s0, s1, s2, s3, s4, s5⟩
                go_simp
                with_reducible rfl
               rotate_left
               ·simp only [Act.put, z1, z2, z3, i64_w, i32_w]
                rfl
               refine pure_ (i := 7) (N := some 29) (v := ?_) (a' := ?_) #[true, true, true, true, true, true, true, true, false, true, true, false, false, false, false, false, false] rfl rfl (any_of HT_.out (by kernel_rfl)) (fun _ _ _ h => h) (Or.inl ⟨by rfl, ?_⟩) ?_ ?_
               rotate_left
               ·intro w'
                go_simp
                with_reducible rfl
               rotate_left
               ·simp only [Act.put, z1, z2, z3, i64_w, i32_w]
                rfl
               refine take_ (i := 8) (N := some 30) (v := ?_) (a' := ?_) #[true, true, true, true, true, true, true, true, true, true, true, false, false, false, false, false, false] rfl rfl (take_ofW HT_.out HW_.out (by kernel_rfl)) (fun _ _ _ h => h) (Or.inl ⟨by rfl, ?_⟩) hHeld ?_ ?_
               rotate_left
               ·rintro w' ⟨s0, s1, s2, s3, s4, s5⟩
                go_simp
                with_reducible rfl
               rotate_left
               ·simp only [Act.put, z1, z2, z3, i64_w, i32_w]
                rfl
               refine take_ (i := 11) (N := some 33) (v := ?_) (a' := ?_) #[true, true, true, true, true, true, true, true, true, true, true, true, false, false, false, false, false] rfl rfl (take_ofW HT_.out HW_.out (by kernel_rfl)) (fun _ _ _ h => h) (Or.inl ⟨by rfl, ?_⟩) hHeld ?_ ?_
               rotate_left
               ·rintro w' ⟨s0, s1, s2, s3, s4, s5⟩
                go_simp
                with_reducible rfl
               rotate_left
               ·simp only [Act.put, z1, z2, z3, i64_w, i32_w]
                rfl
               refine pure_ (i := 12) (N := some 34) (v := ?_) (a' := ?_) #[true, true, true, true, true, true, true, true, true, true, true, true, true, false, false, false, false] rfl rfl (any_of HT_.out (by kernel_rfl)) (fun _ _ _ h => h) (Or.inl ⟨by rfl, ?_⟩) ?_ ?_
               rotate_left
               ·intro w'
                go_simp
                with_reducible rfl
               rotate_left
               ·simp only [Act.put, z1, z2, z3, i64_w, i32_w]
                rfl
               refine take_ (i := 13) (N := some 35) (v := ?_) (a' := ?_) #[true, true, true, true, true, true, true, true, true, true, true, true, true, true, false, false, false] rfl rfl (take_ofW HT_.out HW_.out (by kernel_rfl)) (fun _ _ _ h => h) (Or.inl ⟨by rfl, ?_⟩) hHeld ?_ ?_
               rotate_left
               ·rintro w' ⟨s0, s1, s2, s3, s4, s5⟩
                go_simp
                with_reducible rfl
               rotate_left
               ·simp only [Act.put, z1, z2, z3, i64_w, i32_w]
                rfl
               refine one_ (i := 14) (N := some 36) #[true, true, true, true, true, true, true, true, true, true, true, true, true, true, true, false, false] rfl rfl (one_of HT_.out (by kernel_rfl)) (by decide) (fun K hK => ?_)
               refine goes_ Try.func85 (by kernel_rfl) rfl #[.string ((rd_T47 l0 x15_1).f0), .int .i64 (rd x7_1 ((rd_T47 l0 x15_1).f1)), .int .i64 (rd x7_1 ((rd_T47 l0 x15_1).f2))] (by rfl) rfl rfl (by (try simp only [z6, z7, z8]); first | done | rfl | (simp only [z4, z5]; rfl)) ?_
               with_reducible refine (impl_apply.calls ((rd_T47 l0 x15_1).f0) (rd x7_1 ((rd_T47 l0 x15_1).f1)) (rd x7_1 ((rd_T47 l0 x15_1).f2)) t173 _ A37.out).mono ?_
               rintro e w' ⟨rfl, ⟨nd, rfl⟩⟩
               refine ⟨_, rfl, ?_⟩
               have p39 : 0 ≤ (x15_1 : Int) := zo
               have q39 : (x15_1 : Int) < ((x7_1.length : Int) : Int) := zo
               obtain ⟨go39, co39, eo39, gb39, gl39, cl39, HG39⟩ := Kd.R_form HO_7.out (by omega)
               (first | cases eo39 | (injection eo39 with ea_ en_ ec_; (first | subst ea_ | (injection ea_ with ea_; subst ea_)); subst ec_; clear en_))
               have GB39 := zK gb39
               have GG39 := zK HG39
               clear gb39 gl39 HG39
               (first | simp only [add_plain] at hx171_0 | skip)
               (first | simp only [add_plain] at hx172_0 | skip)
               obtain ⟨hx39_0, hf39_0⟩ := Kd.R_celln 0 HO_7.out (x15_1 : Int) p39 q39
               replace p39 := eq_true p39
               replace q39 := eq_true q39
               have HP45 := Kd.R_putn HO_7.out (x15_1 : Int) t173
               rw [← Ny174.out] at HP45
               have HQ45 := zK HP45
               clear HP45
               refine hK.out _ _ ⟨(zI BK164.out 0).trans rfl, (zI BK164.out 1).trans rfl, (zI BK164.out 2).trans rfl, (zI BK164.out 3).trans rfl, hHeld.2.2.2.2.1, hHeld.2.2.2.2.2⟩ (fun hHeld => ?_)
               clear hK K
               refine norm_ (a' := ?_) ?_ ?_
               rotate_left
               ·show Act.put _ (some 36) _ = _
                simp only [Act.put, z1, z2, z3, i64_w, i32_w]
                rfl
               refine pure_ (i := 15) (N := some 37) (v := ?_) (a' := ?_) #[true, true, true, true, true, true, true, true, true, true, true, true, true, true, true, true, false] rfl rfl (any_of HT_.out (by kernel_rfl)) (fun _ _ _ h => h) (Or.inl ⟨by rfl, ?_⟩) ?_ ?_
               rotate_left
               ·intro w'
                go_simp
                with_reducible rfl
               rotate_left
               ·simp only [Act.put, z1, z2, z3, i64_w, i32_w]
                rfl
               refine last_ (i := 16) (N := none) #[true, true, true, true, true, true, true, true, true, true, true, true, true, true, true, true, true] rfl rfl (one_of HT_.out (by kernel_rfl)) (by decide) (fun K hK => ?_)
               refine skip_ (w1 := ?_) (by rfl) rfl ?_ ?_
               rotate_left
               ·go_simp
                rfl
               refine hK.out _ _ ?_
               clear hK K
               refine done_ (done_of HT_.out (by kernel_rfl)) ?_
               try go_wp2
               go_roundg k1
               case measure => have := HK1.out; omega
               case rel => exact ⟨(y174), (wrap64 (x15_1 + 1)), (by first | rfl | (simp; done) | (simp [*]; done)), H', ⟨by have := HK1.out; omega⟩, ⟨by (with_reducible repeat (first | apply Kd.R_alloc | apply Kd.R_drewN | apply Kd.R_drew)); exact HQ45.out⟩, ⟨by repeat (first | (with_reducible first | exact HB.out | apply zA | apply zB | apply zC | refine zD ?_ GB39.out | refine zD ?_ GE164.out) | exact HB.out)⟩⟩
              ·rw [if_neg c38] at H
               exact absurd H (by simp)
             ·rw [if_neg c36] at H
              exact absurd H (by simp)
            ·rw [if_neg c35] at H
             exact absurd H (by simp)
           ·rw [if_neg c34] at H
            exact absurd H (by simp)
          ·rw [if_neg c33] at H
           exact absurd H (by simp)
       ·rw [if_neg c10] at H
        exact absurd H (by simp)
      ·rw [if_neg c9] at H
       exact absurd H (by simp)
     ·rw [if_neg c8] at H
      have c8b0 : decide (x15_1 < (l0.length : Int)) = false := decide_eq_false c8
      clear c8
      obtain rfl := Option.some.inj H
      go_wp2
      go_ret
      exact ⟨_, by first | rfl | (simp [errW_none, errW_some] <;> rfl) | (simp [*, errW_none, errW_some] <;> rfl), by (with_reducible repeat (first | apply Kd.R_alloc | apply Kd.R_drewN | apply Kd.R_drew)); exact HO_7.out, by repeat (first | (with_reducible first | exact HB.out | apply zA | apply zB | apply zC) | exact HB.out)⟩
  ·rw [if_neg c5] at H
   exact absurd H (by simp)
 ·rw [if_neg c4] at H
  exact absurd H (by simp)

/-! ### impl_eval: function 69 -/
def impl_eval.f (k : Nat) (l0 : List (S47)) (a1 : Int) (a2 : Int) : Option (Int) := (impl_values.f k l0 a1 a2).bind fun t175 => (if 0 ≤ (wrap64 ((l0.length : Int) - 1)) then (if (wrap64 ((l0.length : Int) - 1)) < (t175.length : Int) then (some (rd t175 (wrap64 ((l0.length : Int) - 1)))) else (none)) else (none))
theorem impl_eval.mono : ∀ a0 a1 a2 k, LeO (impl_eval.f k a0 a1 a2) (impl_eval.f (k + 1) a0 a1 a2) := by
 intro a0 a1 a2 k
 unfold impl_eval.f
 repeat' first
   | (with_reducible exact impl_values.mono _ _ _ _)
   | (with_reducible exact LeO.refl _)
   | (with_reducible exact LeO.none _)
   | (with_reducible refine LeO.ite ?_ ?_)
   | (with_reducible refine LeO.bind ?_ (fun _ => ?_))
   | exact impl_values.mono _ _ _ _
   | exact LeO.none _
   | refine LeO.ite ?_ ?_
   | refine LeO.bind ?_ (fun _ => ?_)
set_option maxHeartbeats 8000000 in
set_option maxRecDepth 100000 in
theorem impl_eval.calls (k : Nat) (A0 : Option Addr) (c0 : Nat) (l0 : List (S47)) (a1 : Int) (a2 : Int) (r : Int) (w : World) (hr0 : Kd.C k47 w A0 l0.length l0) (hc0 : l0.length ≤ c0) (h : impl_eval.f k l0 a1 a2 = some r) :
  Calls Try.prog 69 #[.slice A0 l0.length c0, .int .i64 a1, .int .i64 a2] w fun e w' => e = .returned (.int .i64 r) ∧ Below w.heap.size w w' := by
 have HR0 := zK hr0
 have HC0 := zK hc0
 clear hr0 hc0
 have HB := zK (Below.refl w.heap.size w)
 have H : ((impl_values.f k l0 a1 a2).bind fun t175 => (if 0 ≤ (wrap64 ((l0.length : Int) - 1)) then (if (wrap64 ((l0.length : Int) - 1)) < (t175.length : Int) then (some (rd t175 (wrap64 ((l0.length : Int) - 1)))) else (none)) else (none))) = some r := h
 clear h
 replace H := Option.bind_eq_some_iff.mp H
 obtain ⟨t175, A40, H⟩ := H
 replace H : (if 0 ≤ (wrap64 ((l0.length : Int) - 1)) then (if (wrap64 ((l0.length : Int) - 1)) < (t175.length : Int) then (some (rd t175 (wrap64 ((l0.length : Int) - 1)))) else (none)) else (none)) = some r := H
 have A4 := zK A40
 clear A40
 obtain ⟨ji5, hji5⟩ : ∃ j_ : Int, (wrap64 ((l0.length : Int) - 1)) = j_ := ⟨_, rfl⟩
 replace H : (if 0 ≤ (ji5) then (if (ji5) < (t175.length : Int) then (some (rd t175 (ji5))) else (none)) else (none)) = some r := by first | (rw [hji5] at H; exact H) | (simp only [hji5] at H ⊢; exact H)
 (try rw [hji5] at A4)
 have hji5w : (IntKind.i64.wrap ((l0.length : Int) - 1)) = ji5 := (i64_w _).trans hji5
 by_cases c6 : 0 ≤ (ji5)
 ·rw [if_pos c6] at H
  have c6b0 : decide (0 ≤ (ji5)) = true := decide_eq_true c6
  clear c6
  by_cases c7 : (ji5) < (t175.length : Int)
  ·rw [if_pos c7] at H
   have c7b0 : decide ((ji5) < (t175.length : Int)) = true := decide_eq_true c7
   clear c7
   obtain rfl := Option.some.inj H
   go_enter Try.func69, Try.ntmps69
   go_wp2_with (first | ((with_reducible refine gate_callee (f := 73) rfl ?_); refine goesL_ (some 10) rfl rfl Try.func73 (by kernel_rfl) rfl #[.slice A0 l0.length c0, .int .i64 a1, .int .i64 a2] rfl (by (try simp only [z6, z7, z8]); first | done | rfl | (simp only [z4, z5]; rfl)) ?_; (with_reducible refine (impl_values.calls k _ _ l0 a1 a2 t175 _ ?side1 ?side2 A4.out).mono ?_); (case side1 => repeat (first | exact HR0.out | (with_reducible refine Kd.C_alloc ?_ _) | (with_reducible refine Kd.C_drewN ?_ _) | (with_reducible refine Kd.C_drew ?_))); (case side2 => exact HC0.out); rintro e w8 ⟨v176, rfl, ho0, hb⟩; refine ⟨_, rfl, ?_⟩; have n0_ := zK (Kd.R_lower ho0 (zN (by repeat (first | (with_reducible first | exact HB.out | apply zA | apply zB | apply zC) | exact HB.out)))); have n1_ := zK (zL (by repeat (first | (with_reducible first | exact HB.out | apply zA | apply zB | apply zC) | exact HB.out)) hb); clear HB; have HO177 := n0_; have HB := n1_; clear n0_ n1_; (try clear hb); (try clear hb2); (try clear hk); (try clear hi); (try clear ho0); obtain ⟨Ao9, co9, eo9⟩ := Kd.R_slice HO177.out; subst eo9; have p178 : 0 ≤ ((ji5) : Int) := zo; have q178 : (ji5) < (t175.length : Int) := zo; obtain ⟨ad178, e178, hx178_0⟩ := Kd.at_int (Kd.R_reads' HO177.out).2.2 (ji5) p178 q178; cases e178; replace p178 := eq_true p178; replace q178 := eq_true q178))
   go_ret
   exact ⟨by first | rfl | (simp [errW_none, errW_some] <;> rfl) | (simp only [← hji5]; first | rfl | (simp [errW_none, errW_some] <;> rfl)) | (simp [*, errW_none, errW_some] <;> rfl), by repeat (first | (with_reducible first | exact HB.out | apply zA | apply zB | apply zC) | exact HB.out)⟩
  ·rw [if_neg c7] at H
   exact absurd H (by simp)
 ·rw [if_neg c6] at H
  exact absurd H (by simp)

/-! ### impl_EvalExpr: function 19 -/
def impl_EvalExpr.f (k : Nat) (l0 : List (S47)) (a1 : Int) (a2 : Int) : Option (Int × Bool) := (impl_areRight.f k l0 a1 a2).bind fun t179 => (if t179 = true then ((impl_eval.f k l0 a1 a2).bind fun t180 => (some (t180, true))) else (some (0, false)))
theorem impl_EvalExpr.mono : ∀ a0 a1 a2 k, LeO (impl_EvalExpr.f k a0 a1 a2) (impl_EvalExpr.f (k + 1) a0 a1 a2) := by
 intro a0 a1 a2 k
 unfold impl_EvalExpr.f
 repeat' first
   | (with_reducible exact impl_areRight.mono _ _ _ _)
   | (with_reducible exact impl_eval.mono _ _ _ _)
   | (with_reducible exact LeO.refl _)
   | (with_reducible exact LeO.none _)
   | (with_reducible refine LeO.ite ?_ ?_)
   | (with_reducible refine LeO.bind ?_ (fun _ => ?_))
   | exact impl_areRight.mono _ _ _ _
   | exact impl_eval.mono _ _ _ _
   | exact LeO.none _
   | refine LeO.ite ?_ ?_
   | refine LeO.bind ?_ (fun _ => ?_)
set_option maxHeartbeats 8000000 in
set_option maxRecDepth 100000 in
theorem impl_EvalExpr.calls (k : Nat) (A0 : Option Addr) (c0 : Nat) (l0 : List (S47)) (a1 : Int) (a2 : Int) (r1 : Int) (r2 : Bool) (w : World) (hr0 : Kd.C k47 w A0 l0.length l0) (hc0 : l0.length ≤ c0) (h : impl_EvalExpr.f k l0 a1 a2 = some (r1, r2)) :
  Calls Try.prog 19 #[.slice A0 l0.length c0, .int .i64 a1, .int .i64 a2] w fun e w' => e = .returned (.tuple #[.int .i64 r1, .bool r2]) ∧ Below w.heap.size w w' := by
 have HR0 := zK hr0
 have HC0 := zK hc0
 clear hr0 hc0
 have HB := zK (Below.refl w.heap.size w)
 have H : ((impl_areRight.f k l0 a1 a2).bind fun t179 => (if t179 = true then ((impl_eval.f k l0 a1 a2).bind fun t180 => (some (t180, true))) else (some (0, false)))) = some (r1, r2) := h
 clear h
 replace H := Option.bind_eq_some_iff.mp H
 obtain ⟨t179, A40, H⟩ := H
 replace H : (if t179 = true then ((impl_eval.f k l0 a1 a2).bind fun t180 => (some (t180, true))) else (some (0, false))) = some (r1, r2) := H
 have A4 := zK A40
 clear A40
 by_cases c5 : t179 = true
 ·subst c5
  have H1 : ((impl_eval.f k l0 a1 a2).bind fun t180 => (some (t180, true))) = some (r1, r2) := by rw [if_pos rfl] at H; exact H
  clear H
  have H := H1
  clear H1
  replace H := Option.bind_eq_some_iff.mp H
  obtain ⟨t180, A60, H⟩ := H
  replace H : (some (t180, true)) = some (r1, r2) := H
  have A6 := zK A60
  clear A60
  simp only [Option.some.injEq, Prod.mk.injEq] at H
  obtain ⟨rfl, rfl⟩ := H
  go_enter Try.func19, Try.ntmps19
  go_wp2_with (first | ((with_reducible refine gate_callee (f := 68) rfl ?_); refine goesL_ (some 11) rfl rfl Try.func68 (by kernel_rfl) rfl #[.slice A0 l0.length c0, .int .i64 a1, .int .i64 a2] rfl (by (try simp only [z6, z7, z8]); first | done | rfl | (simp only [z4, z5]; rfl)) ?_; (with_reducible refine (impl_areRight.calls k _ _ l0 a1 a2 true _ ?side1 ?side2 A4.out).mono ?_); (case side1 => repeat (first | exact HR0.out | (with_reducible refine Kd.C_alloc ?_ _) | (with_reducible refine Kd.C_drewN ?_ _) | (with_reducible refine Kd.C_drew ?_))); (case side2 => exact HC0.out); rintro e w7 ⟨rfl, hb⟩; refine ⟨_, rfl, ?_⟩; have n0_ := zK (zL (by repeat (first | (with_reducible first | exact HB.out | apply zA | apply zB | apply zC) | exact HB.out)) hb); clear HB; have HB := n0_; clear n0_; (try clear hb); (try clear hb2); (try clear hk); (try clear hi)) | ((with_reducible refine gate_callee (f := 69) rfl ?_); refine goesL_ (some 16) rfl rfl Try.func69 (by kernel_rfl) rfl #[.slice A0 l0.length c0, .int .i64 a1, .int .i64 a2] rfl (by (try simp only [z6, z7, z8]); first | done | rfl | (simp only [z4, z5]; rfl)) ?_; (with_reducible refine (impl_eval.calls k _ _ l0 a1 a2 t180 _ ?side1 ?side2 A6.out).mono ?_); (case side1 => repeat (first | exact (Kd.C_below HR0.out HB.out) | (with_reducible refine Kd.C_alloc ?_ _) | (with_reducible refine Kd.C_drewN ?_ _) | (with_reducible refine Kd.C_drew ?_))); (case side2 => exact HC0.out); rintro e w8 ⟨rfl, hb⟩; refine ⟨_, rfl, ?_⟩; have n0_ := zK (zL (by repeat (first | (with_reducible first | exact HB.out | apply zA | apply zB | apply zC) | exact HB.out)) hb); clear HB; have HB := n0_; clear n0_; (try clear hb); (try clear hb2); (try clear hk); (try clear hi)))
  go_ret2
  exact ⟨by first | rfl | (simp [errW_none, errW_some] <;> rfl) | (simp [*, errW_none, errW_some] <;> rfl), by repeat (first | (with_reducible first | exact HB.out | apply zA | apply zB | apply zC) | exact HB.out)⟩
 ·replace c5 := Bool.eq_false_iff.mpr c5
  subst c5
  have H1 : (some (0, false)) = some (r1, r2) := by rw [if_neg (show ¬ (false = true) by decide)] at H; exact H
  clear H
  have H := H1
  clear H1
  simp only [Option.some.injEq, Prod.mk.injEq] at H
  obtain ⟨rfl, rfl⟩ := H
  go_enter Try.func19, Try.ntmps19
  go_wp2_with (first | ((with_reducible refine gate_callee (f := 68) rfl ?_); refine goesL_ (some 11) rfl rfl Try.func68 (by kernel_rfl) rfl #[.slice A0 l0.length c0, .int .i64 a1, .int .i64 a2] rfl (by (try simp only [z6, z7, z8]); first | done | rfl | (simp only [z4, z5]; rfl)) ?_; (with_reducible refine (impl_areRight.calls k _ _ l0 a1 a2 false _ ?side1 ?side2 A4.out).mono ?_); (case side1 => repeat (first | exact HR0.out | (with_reducible refine Kd.C_alloc ?_ _) | (with_reducible refine Kd.C_drewN ?_ _) | (with_reducible refine Kd.C_drew ?_))); (case side2 => exact HC0.out); rintro e w9 ⟨rfl, hb⟩; refine ⟨_, rfl, ?_⟩; have n0_ := zK (zL (by repeat (first | (with_reducible first | exact HB.out | apply zA | apply zB | apply zC) | exact HB.out)) hb); clear HB; have HB := n0_; clear n0_; (try clear hb); (try clear hb2); (try clear hk); (try clear hi)))
  go_ret2
  exact ⟨by first | rfl | (simp [errW_none, errW_some] <;> rfl) | (simp [*, errW_none, errW_some] <;> rfl), by repeat (first | (with_reducible first | exact HB.out | apply zA | apply zB | apply zC) | exact HB.out)⟩

/-! ### spec_l1Cur_next: function 109 -/
def spec_l1Cur_next.f (s0_0 : List Int) (s0_1 : Int) (s0_2 : Int) : Option (Int × Int × Int) := if s0_1 < (s0_0.length : Int) then (if 0 ≤ s0_1 then (if (wrap64 (s0_1 + 1)) ≤ (s0_0.length : Int) then (some (wrap64 (rd s0_0 s0_1), wrap64 (s0_1 + 1), IntKind.u64.wrap ((IntKind.u64.wrap ((IntKind.u64.wrap (s0_2 * 6364136223846793005)) + (IntKind.u64.wrap (wrap64 (rd s0_0 s0_1))))) + 1442695040888963407))) else (some (wrap64 (Go.bits .and .u64 ((IntKind.u64.wrap ((IntKind.u64.wrap ((IntKind.u64.wrap (s0_2 * 6364136223846793005)) + (IntKind.u64.wrap (wrap64 (rd s0_0 s0_1))))) + 1442695040888963407)) / 1099511627776) 255), wrap64 (s0_1 + 1), IntKind.u64.wrap ((IntKind.u64.wrap ((IntKind.u64.wrap (s0_2 * 6364136223846793005)) + (IntKind.u64.wrap (wrap64 (rd s0_0 s0_1))))) + 1442695040888963407)))) else (none)) else (if (wrap64 (s0_1 + 1)) ≤ (s0_0.length : Int) then (some (0, wrap64 (s0_1 + 1), IntKind.u64.wrap ((IntKind.u64.wrap (IntKind.u64.wrap (s0_2 * 6364136223846793005))) + 1442695040888963407))) else (some (wrap64 (Go.bits .and .u64 ((IntKind.u64.wrap ((IntKind.u64.wrap (IntKind.u64.wrap (s0_2 * 6364136223846793005))) + 1442695040888963407)) / 1099511627776) 255), wrap64 (s0_1 + 1), IntKind.u64.wrap ((IntKind.u64.wrap (IntKind.u64.wrap (s0_2 * 6364136223846793005))) + 1442695040888963407))))
set_option maxHeartbeats 8000000 in
set_option maxRecDepth 100000 in
theorem spec_l1Cur_next.calls (g : Nat) (s0_0 : List Int) (s0_1 : Int) (s0_2 : Int) (r1 : Int) (r2 : Int) (r3 : Int) (w0 w : World) (hI : IsS59 w0 w g s0_0 s0_1 s0_2) (hB : Below w0.heap.size w0 w) (h : spec_l1Cur_next.f s0_0 s0_1 s0_2 = some (r1, r2, r3)) :
  Calls Try.prog 109 #[.pointer (some ⟨g, 0, none⟩)] w fun e w' => e = .returned (.int .i64 r1) ∧ IsS59 w0 w' g s0_0 r2 r3 ∧ Below w0.heap.size w0 w' ∧ KeepBut w w' g none := by
 have HI0 := zK hI
 have HK := zK (KeepBut.refl w g none)
 have HL := zK hB.size
 clear hI
 have HW0 := zK hB.size
 have HB := zK hB
 clear hB
 have H : (if s0_1 < (s0_0.length : Int) then (if 0 ≤ s0_1 then (if (wrap64 (s0_1 + 1)) ≤ (s0_0.length : Int) then (some (wrap64 (rd s0_0 s0_1), wrap64 (s0_1 + 1), IntKind.u64.wrap ((IntKind.u64.wrap ((IntKind.u64.wrap (s0_2 * 6364136223846793005)) + (IntKind.u64.wrap (wrap64 (rd s0_0 s0_1))))) + 1442695040888963407))) else (some (wrap64 (Go.bits .and .u64 ((IntKind.u64.wrap ((IntKind.u64.wrap ((IntKind.u64.wrap (s0_2 * 6364136223846793005)) + (IntKind.u64.wrap (wrap64 (rd s0_0 s0_1))))) + 1442695040888963407)) / 1099511627776) 255), wrap64 (s0_1 + 1), IntKind.u64.wrap ((IntKind.u64.wrap ((IntKind.u64.wrap (s0_2 * 6364136223846793005)) + (IntKind.u64.wrap (wrap64 (rd s0_0 s0_1))))) + 1442695040888963407)))) else (none)) else (if (wrap64 (s0_1 + 1)) ≤ (s0_0.length : Int) then (some (0, wrap64 (s0_1 + 1), IntKind.u64.wrap ((IntKind.u64.wrap (IntKind.u64.wrap (s0_2 * 6364136223846793005))) + 1442695040888963407))) else (some (wrap64 (Go.bits .and .u64 ((IntKind.u64.wrap ((IntKind.u64.wrap (IntKind.u64.wrap (s0_2 * 6364136223846793005))) + 1442695040888963407)) / 1099511627776) 255), wrap64 (s0_1 + 1), IntKind.u64.wrap ((IntKind.u64.wrap (IntKind.u64.wrap (s0_2 * 6364136223846793005))) + 1442695040888963407))))) = some (r1, r2, r3) := h
 clear h
 by_cases c2 : s0_1 < (s0_0.length : Int)
 ·rw [if_pos c2] at H
  have c2b0 : decide (s0_1 < (s0_0.length : Int)) = true := decide_eq_true c2
  clear c2
  by_cases c3 : 0 ≤ s0_1
  ·rw [if_pos c3] at H
   have c3b0 : decide (0 ≤ s0_1) = true := decide_eq_true c3
   clear c3
   by_cases c4 : (wrap64 (s0_1 + 1)) ≤ (s0_0.length : Int)
   ·rw [if_pos c4] at H
    have c4b0 : decide ((wrap64 (s0_1 + 1)) ≤ (s0_0.length : Int)) = true := decide_eq_true c4
    clear c4
    simp only [Option.some.injEq, Prod.mk.injEq] at H
    obtain ⟨rfl, rfl, rfl⟩ := H
    obtain ⟨ASz5_0, cSz5_0, HGz5, hgz5, HSz5_0⟩ := HI0.out
    have hcz5_0 := cellS59_0 HGz5
    have hcz5_1 := cellS59_1 HGz5
    have hcz5_2 := cellS59_2 HGz5
    have hfz5_1 := zH HGz5 1
    have hfz5_2 := zH HGz5 2
    clear HGz5 hgz5
    have p181 : 0 ≤ (s0_1 : Int) := zo
    have q181 : s0_1 < (s0_0.length : Int) := zo
    obtain ⟨ad181, e181, hx181_0⟩ := Kd.at_int HSz5_0 s0_1 p181 q181
    cases e181
    replace hx181_0 := pw_cell_below HB.out hx181_0
    replace p181 := eq_true p181
    replace q181 := eq_true q181
    go_enter Try.func109, Try.ntmps109
    go_wp2
    repeat (go_quiet (fail); try go_wp2)
    go_ret
    exact ⟨by first | rfl | (simp [errW_none, errW_some] <;> rfl) | (simp [*, errW_none, errW_some] <;> rfl), by repeat (first | (with_reducible first | exact HI0.out | apply IsS59.alloc | apply IsS59.drewN | apply IsS59.drew | apply IsS59.set_1 | apply IsS59.set_2) | exact HI0.out), by repeat (first | (with_reducible first | exact HB.out | apply zA | apply zB | apply zC | refine zD ?_ (IsS59.ge HI0.out)) | exact HB.out), by repeat (first | (with_reducible first | exact HK.out | apply KeepBut.set_ | apply keep_drewN | apply keep_drew | apply keep_alloc) | exact HK.out)⟩
   ·rw [if_neg c4] at H
    have c4b0 : decide ((wrap64 (s0_1 + 1)) ≤ (s0_0.length : Int)) = false := decide_eq_false c4
    clear c4
    simp only [Option.some.injEq, Prod.mk.injEq] at H
    obtain ⟨rfl, rfl, rfl⟩ := H
    obtain ⟨ASz6_0, cSz6_0, HGz6, hgz6, HSz6_0⟩ := HI0.out
    have hcz6_0 := cellS59_0 HGz6
    have hcz6_1 := cellS59_1 HGz6
    have hcz6_2 := cellS59_2 HGz6
    have hfz6_1 := zH HGz6 1
    have hfz6_2 := zH HGz6 2
    clear HGz6 hgz6
    have p181 : 0 ≤ (s0_1 : Int) := zo
    have q181 : s0_1 < (s0_0.length : Int) := zo
    obtain ⟨ad181, e181, hx181_0⟩ := Kd.at_int HSz6_0 s0_1 p181 q181
    cases e181
    replace hx181_0 := pw_cell_below HB.out hx181_0
    replace p181 := eq_true p181
    replace q181 := eq_true q181
    go_enter Try.func109, Try.ntmps109
    go_wp2
    repeat (go_quiet (fail); try go_wp2)
    go_ret
    exact ⟨by first | rfl | (simp [errW_none, errW_some] <;> rfl) | (simp [*, errW_none, errW_some] <;> rfl), by repeat (first | (with_reducible first | exact HI0.out | apply IsS59.alloc | apply IsS59.drewN | apply IsS59.drew | apply IsS59.set_1 | apply IsS59.set_2) | exact HI0.out), by repeat (first | (with_reducible first | exact HB.out | apply zA | apply zB | apply zC | refine zD ?_ (IsS59.ge HI0.out)) | exact HB.out), by repeat (first | (with_reducible first | exact HK.out | apply KeepBut.set_ | apply keep_drewN | apply keep_drew | apply keep_alloc) | exact HK.out)⟩
  ·rw [if_neg c3] at H
   exact absurd H (by simp)
 ·rw [if_neg c2] at H
  have c2b0 : decide (s0_1 < (s0_0.length : Int)) = false := decide_eq_false c2
  clear c2
  by_cases c7 : (wrap64 (s0_1 + 1)) ≤ (s0_0.length : Int)
  ·rw [if_pos c7] at H
   have c7b0 : decide ((wrap64 (s0_1 + 1)) ≤ (s0_0.length : Int)) = true := decide_eq_true c7
   clear c7
   simp only [Option.some.injEq, Prod.mk.injEq] at H
   obtain ⟨rfl, rfl, rfl⟩ := H
   obtain ⟨ASz8_0, cSz8_0, HGz8, hgz8, HSz8_0⟩ := HI0.out
   have hcz8_0 := cellS59_0 HGz8
   have hcz8_1 := cellS59_1 HGz8
   have hcz8_2 := cellS59_2 HGz8
   have hfz8_1 := zH HGz8 1
   have hfz8_2 := zH HGz8 2
   clear HGz8 hgz8
   go_enter Try.func109, Try.ntmps109
   go_wp2
   repeat (go_quiet (fail); try go_wp2)
   go_ret
   exact ⟨by first | rfl | (simp [errW_none, errW_some] <;> rfl) | (simp [*, errW_none, errW_some] <;> rfl), by repeat (first | (with_reducible first | exact HI0.out | apply IsS59.alloc | apply IsS59.drewN | apply IsS59.drew | apply IsS59.set_1 | apply IsS59.set_2) | exact HI0.out), by repeat (first | (with_reducible first | exact HB.out | apply zA | apply zB | apply zC | refine zD ?_ (IsS59.ge HI0.out)) | exact HB.out), by repeat (first | (with_reducible first | exact HK.out | apply KeepBut.set_ | apply keep_drewN | apply keep_drew | apply keep_alloc) | exact HK.out)⟩
  ·rw [if_neg c7] at H
   have c7b0 : decide ((wrap64 (s0_1 + 1)) ≤ (s0_0.length : Int)) = false := decide_eq_false c7
   clear c7
   simp only [Option.some.injEq, Prod.mk.injEq] at H
   obtain ⟨rfl, rfl, rfl⟩ := H
   obtain ⟨ASz9_0, cSz9_0, HGz9, hgz9, HSz9_0⟩ := HI0.out
   have hcz9_0 := cellS59_0 HGz9
   have hcz9_1 := cellS59_1 HGz9
   have hcz9_2 := cellS59_2 HGz9
   have hfz9_1 := zH HGz9 1
   have hfz9_2 := zH HGz9 2
   clear HGz9 hgz9
   go_enter Try.func109, Try.ntmps109
   go_wp2
   repeat (go_quiet (fail); try go_wp2)
   go_ret
   exact ⟨by first | rfl | (simp [errW_none, errW_some] <;> rfl) | (simp [*, errW_none, errW_some] <;> rfl), by repeat (first | (with_reducible first | exact HI0.out | apply IsS59.alloc | apply IsS59.drewN | apply IsS59.drew | apply IsS59.set_1 | apply IsS59.set_2) | exact HI0.out), by repeat (first | (with_reducible first | exact HB.out | apply zA | apply zB | apply zC | refine zD ?_ (IsS59.ge HI0.out)) | exact HB.out), by repeat (first | (with_reducible first | exact HK.out | apply KeepBut.set_ | apply keep_drewN | apply keep_drew | apply keep_alloc) | exact HK.out)⟩

/-! ### spec_l1Cur_pick: function 55 -/
def spec_l1Cur_pick.f (s0_0 : List Int) (s0_1 : Int) (s0_2 : Int) (a1 : Int) : Option (Int × Int × Int) := if a1 ≤ 1 then (some (0, s0_1, s0_2)) else ((spec_l1Cur_next.f s0_0 s0_1 s0_2).bind fun bt182 => (if a1 > 200 then ((spec_l1Cur_next.f s0_0 bt182.2.1 bt182.2.2).bind fun bt185 => (if a1 = 0 then (none) else (some (Int.tmod (wrap64 ((wrap64 (bt182.1 * 256)) + bt185.1)) a1, bt185.2.1, bt185.2.2)))) else (if a1 = 0 then (none) else (some (Int.tmod bt182.1 a1, bt182.2.1, bt182.2.2)))))
set_option maxHeartbeats 8000000 in
set_option maxRecDepth 100000 in
theorem spec_l1Cur_pick.calls (g : Nat) (s0_0 : List Int) (s0_1 : Int) (s0_2 : Int) (a1 : Int) (r1 : Int) (r2 : Int) (r3 : Int) (w0 w : World) (hI : IsS59 w0 w g s0_0 s0_1 s0_2) (hB : Below w0.heap.size w0 w) (h : spec_l1Cur_pick.f s0_0 s0_1 s0_2 a1 = some (r1, r2, r3)) :
  Calls Try.prog 55 #[.pointer (some ⟨g, 0, none⟩), .int .i64 a1] w fun e w' => e = .returned (.int .i64 r1) ∧ IsS59 w0 w' g s0_0 r2 r3 ∧ Below w0.heap.size w0 w' ∧ KeepBut w w' g none := by
 have HI0 := zK hI
 have HK := zK (KeepBut.refl w g none)
 have HL := zK hB.size
 clear hI
 have HW0 := zK hB.size
 have HB := zK hB
 clear hB
 have H : (if a1 ≤ 1 then (some (0, s0_1, s0_2)) else ((spec_l1Cur_next.f s0_0 s0_1 s0_2).bind fun bt182 => (if a1 > 200 then ((spec_l1Cur_next.f s0_0 bt182.2.1 bt182.2.2).bind fun bt185 => (if a1 = 0 then (none) else (some (Int.tmod (wrap64 ((wrap64 (bt182.1 * 256)) + bt185.1)) a1, bt185.2.1, bt185.2.2)))) else (if a1 = 0 then (none) else (some (Int.tmod bt182.1 a1, bt182.2.1, bt182.2.2)))))) = some (r1, r2, r3) := h
 clear h
 by_cases c3 : a1 ≤ 1
 ·rw [if_pos c3] at H
  have c3b0 : decide (a1 ≤ 1) = true := decide_eq_true c3
  clear c3
  simp only [Option.some.injEq, Prod.mk.injEq] at H
  obtain ⟨rfl, rfl, rfl⟩ := H
  go_enter Try.func55, Try.ntmps55
  go_wp2
  go_ret
  exact ⟨by first | rfl | (simp [errW_none, errW_some] <;> rfl) | (simp [*, errW_none, errW_some] <;> rfl), by repeat (first | (with_reducible first | exact HI0.out | apply IsS59.alloc | apply IsS59.drewN | apply IsS59.drew | apply IsS59.set_1 | apply IsS59.set_2) | exact HI0.out), by repeat (first | (with_reducible first | exact HB.out | apply zA | apply zB | apply zC | refine zD ?_ (IsS59.ge HI0.out)) | exact HB.out), by repeat (first | (with_reducible first | exact HK.out | apply KeepBut.set_ | apply keep_drewN | apply keep_drew | apply keep_alloc) | exact HK.out)⟩
 ·rw [if_neg c3] at H
  have c3b0 : decide (a1 ≤ 1) = false := decide_eq_false c3
  clear c3
  replace H := Option.bind_eq_some_iff.mp H
  obtain ⟨⟨t182, t183, t184⟩, A40, H⟩ := H
  replace H : (if a1 > 200 then ((spec_l1Cur_next.f s0_0 t183 t184).bind fun bt185 => (if a1 = 0 then (none) else (some (Int.tmod (wrap64 ((wrap64 (t182 * 256)) + bt185.1)) a1, bt185.2.1, bt185.2.2)))) else (if a1 = 0 then (none) else (some (Int.tmod t182 a1, t183, t184)))) = some (r1, r2, r3) := H
  have A4 := zK A40
  clear A40
  by_cases c5 : a1 > 200
  ·rw [if_pos c5] at H
   have c5b0 : decide (200 < a1) = true := decide_eq_true c5
   clear c5
   replace H := Option.bind_eq_some_iff.mp H
   obtain ⟨⟨t185, t186, t187⟩, A60, H⟩ := H
   replace H : (if a1 = 0 then (none) else (some (Int.tmod (wrap64 ((wrap64 (t182 * 256)) + t185)) a1, t186, t187))) = some (r1, r2, r3) := H
   have A6 := zK A60
   clear A60
   by_cases c7 : a1 = 0
   ·rw [if_pos c7] at H
    exact absurd H (by simp)
   ·rw [if_neg c7] at H
    have c7b0 : (a1 == 0) = false := beq_eq_false_iff_ne.mpr c7
    have c7b1 : (a1 != 0) = true := bne_iff_ne.mpr c7
    simp only [Option.some.injEq, Prod.mk.injEq] at H
    obtain ⟨rfl, rfl, rfl⟩ := H
    go_enter Try.func55, Try.ntmps55
    go_wp2_with (first | ((with_reducible refine gate_callee (f := 109) rfl ?_); refine goesL_ (some 9) rfl rfl Try.func109 (by kernel_rfl) rfl #[.pointer (some ⟨g, 0, none⟩)] rfl (by (try simp only [z6, z7, z8]); first | done | rfl | (simp only [z4, z5]; rfl)) ?_; (with_reducible refine (spec_l1Cur_next.calls g s0_0 s0_1 s0_2 t182 t183 t184 w0 _ ?side1 ?side2 A4.out).mono ?_); (case side1 => repeat (first | (with_reducible first | exact HI0.out | apply IsS59.alloc | apply IsS59.drewN | apply IsS59.drew | apply IsS59.set_1 | apply IsS59.set_2) | exact HI0.out)); (case side2 => repeat (first | (with_reducible first | exact HB.out | apply zA | apply zB | apply zC | refine zD ?_ (IsS59.ge HI0.out)) | exact HB.out)); rintro e w8 ⟨rfl, hi, hb, hk⟩; refine ⟨_, rfl, ?_⟩; have n0_ := zK (KeepBut.trans (by repeat (first | (with_reducible first | exact HK.out | apply KeepBut.set_ | apply keep_drewN | apply keep_drew | apply keep_alloc) | exact HK.out)) hk (.inl rfl)); have n1_ := zK (hb); have n2_ := zK (hi); clear HK; clear HB; clear HI0; have HK := n0_; have HB := n1_; have HI0 := n2_; clear n0_ n1_ n2_; (try clear hb); (try clear hb2); (try clear hk); (try clear hi)) | ((with_reducible refine gate_callee (f := 109) rfl ?_); refine goesL_ (some 15) rfl rfl Try.func109 (by kernel_rfl) rfl #[.pointer (some ⟨g, 0, none⟩)] rfl (by (try simp only [z6, z7, z8]); first | done | rfl | (simp only [z4, z5]; rfl)) ?_; (with_reducible refine (spec_l1Cur_next.calls g s0_0 t183 t184 t185 t186 t187 w0 _ ?side1 ?side2 A6.out).mono ?_); (case side1 => repeat (first | (with_reducible first | exact HI0.out | apply IsS59.alloc | apply IsS59.drewN | apply IsS59.drew | apply IsS59.set_1 | apply IsS59.set_2) | exact HI0.out)); (case side2 => repeat (first | (with_reducible first | exact HB.out | apply zA | apply zB | apply zC | refine zD ?_ (IsS59.ge HI0.out)) | exact HB.out)); rintro e w9 ⟨rfl, hi, hb, hk⟩; refine ⟨_, rfl, ?_⟩; have n0_ := zK (KeepBut.trans (by repeat (first | (with_reducible first | exact HK.out | apply KeepBut.set_ | apply keep_drewN | apply keep_drew | apply keep_alloc) | exact HK.out)) hk (.inl rfl)); have n1_ := zK (hb); have n2_ := zK (hi); clear HK; clear HB; clear HI0; have HK := n0_; have HB := n1_; have HI0 := n2_; clear n0_ n1_ n2_; (try clear hb); (try clear hb2); (try clear hk); (try clear hi)))
    go_ret
    exact ⟨by first | rfl | (simp [errW_none, errW_some] <;> rfl) | (simp [*, errW_none, errW_some] <;> rfl), by repeat (first | (with_reducible first | exact HI0.out | apply IsS59.alloc | apply IsS59.drewN | apply IsS59.drew | apply IsS59.set_1 | apply IsS59.set_2) | exact HI0.out), by repeat (first | (with_reducible first | exact HB.out | apply zA | apply zB | apply zC | refine zD ?_ (IsS59.ge HI0.out)) | exact HB.out), by repeat (first | (with_reducible first | exact HK.out | apply KeepBut.set_ | apply keep_drewN | apply keep_drew | apply keep_alloc) | exact HK.out)⟩
  ·rw [if_neg c5] at H
   have c5b0 : decide (200 < a1) = false := decide_eq_false c5
   clear c5
   by_cases c10 : a1 = 0
   ·rw [if_pos c10] at H
    exact absurd H (by simp)
   ·rw [if_neg c10] at H
    have c10b0 : (a1 == 0) = false := beq_eq_false_iff_ne.mpr c10
    have c10b1 : (a1 != 0) = true := bne_iff_ne.mpr c10
    simp only [Option.some.injEq, Prod.mk.injEq] at H
    obtain ⟨rfl, rfl, rfl⟩ := H
    go_enter Try.func55, Try.ntmps55
    go_wp2_with (first | ((with_reducible refine gate_callee (f := 109) rfl ?_); refine goesL_ (some 9) rfl rfl Try.func109 (by kernel_rfl) rfl #[.pointer (some ⟨g, 0, none⟩)] rfl (by (try simp only [z6, z7, z8]); first | done | rfl | (simp only [z4, z5]; rfl)) ?_; (with_reducible refine (spec_l1Cur_next.calls g s0_0 s0_1 s0_2 t182 t183 t184 w0 _ ?side1 ?side2 A4.out).mono ?_); (case side1 => repeat (first | (with_reducible first | exact HI0.out | apply IsS59.alloc | apply IsS59.drewN | apply IsS59.drew | apply IsS59.set_1 | apply IsS59.set_2) | exact HI0.out)); (case side2 => repeat (first | (with_reducible first | exact HB.out | apply zA | apply zB | apply zC | refine zD ?_ (IsS59.ge HI0.out)) | exact HB.out)); rintro e w11 ⟨rfl, hi, hb, hk⟩; refine ⟨_, rfl, ?_⟩; have n0_ := zK (KeepBut.trans (by repeat (first | (with_reducible first | exact HK.out | apply KeepBut.set_ | apply keep_drewN | apply keep_drew | apply keep_alloc) | exact HK.out)) hk (.inl rfl)); have n1_ := zK (hb); have n2_ := zK (hi); clear HK; clear HB; clear HI0; have HK := n0_; have HB := n1_; have HI0 := n2_; clear n0_ n1_ n2_; (try clear hb); (try clear hb2); (try clear hk); (try clear hi)))
    go_ret
    exact ⟨by first | rfl | (simp [errW_none, errW_some] <;> rfl) | (simp [*, errW_none, errW_some] <;> rfl), by repeat (first | (with_reducible first | exact HI0.out | apply IsS59.alloc | apply IsS59.drewN | apply IsS59.drew | apply IsS59.set_1 | apply IsS59.set_2) | exact HI0.out), by repeat (first | (with_reducible first | exact HB.out | apply zA | apply zB | apply zC | refine zD ?_ (IsS59.ge HI0.out)) | exact HB.out), by repeat (first | (with_reducible first | exact HK.out | apply KeepBut.set_ | apply keep_drewN | apply keep_drew | apply keep_alloc) | exact HK.out)⟩

end Go.Proofs.Ytlcplhcccgbmnaa.C
