/- Contracts: impl_IsExpr, impl_bit, impl_apply, impl_values, impl_eval, impl_tableOf_c1_v, impl_table_impl_tableOf_c1, impl_tableOf, impl_TableOf, laws_pTable. -/
import Derived.Test.YtlcplhcccgbmnaaDK
import Derived.Test.YtlcplhcccgbmnaaDLawsBig
namespace Go.Proofs.Ytlcplhcccgbmnaa.D
open Go.RowKit Go.Proofs.YtlcplhcccgbmnaaW.PrintWords Go.Proofs.YtlcplhcccgbmnaaW.PrintLast Go.Proofs.YtlcplhcccgbmnaaW.PrintMore
attribute [local go_sem] max2_int min2_int max_two min_two max_three min_three max_four min_four   -- for this text's walks alone
set_option linter.unusedVariables false
set_option linter.unusedSimpArgs false

/-! ### impl_IsExpr: function 20 -/
def impl_IsExpr.l0 : Nat → List (S47) → List (S47) → Int → Int → Option (Bool)
 | 0, _, _, _, _ => none
 | k + 1, x0, x9, x10, x11 => if x11 < x10 then (if 0 ≤ x11 then (if x11 < (x9.length : Int) then ((impl_Node_isNode.f k ((rd_T47 x9 x11).f0) ((rd_T47 x9 x11).f1) ((rd_T47 x9 x11).f2) ((rd_T47 x9 x11).f3) x11).bind fun t148 => (if t148 = true then (impl_IsExpr.l0 k x0 x9 x10 (wrap64 (x11 + 1))) else (some false))) else (none)) else (none)) else ((impl_uses.f k x0).bind fun t149 => (if 0 ≤ (wrap64 ((x0.length : Int) - 1)) then (if (wrap64 ((x0.length : Int) - 1)) ≤ (t149.length : Int) then ((slices_Contains_int_int.f k (t149.take ((wrap64 ((x0.length : Int) - 1)) : Int).toNat) 0).bind fun t156 => (some (!t156))) else (none)) else (none)))
def impl_IsExpr.f (k : Nat) (l0 : List (S47)) : Option (Bool) := (impl_within.f (l0.length : Int) 1 24).bind fun t145 => (if t145 = true then (impl_IsExpr.l0 k l0 l0 (l0.length : Int) 0) else (some false))
set_option maxHeartbeats 8000000 in
set_option maxRecDepth 100000 in
theorem impl_IsExpr.calls (k : Nat) (A0 : Option Addr) (c0 : Nat) (l0 : List (S47)) (r : Bool) (w : World) (hr0 : Kd.C k47 w A0 l0.length l0) (hc0 : l0.length ≤ c0) (h : impl_IsExpr.f k l0 = some r) :
  Calls Try.prog 20 #[.slice A0 l0.length c0] w fun e w' => e = .returned (.bool r) ∧ Below w.heap.size w w' := by
 have hu47 := Try.underlying47
 have HR0 := zK hr0
 have HC0 := zK hc0
 clear hr0 hc0
 have HB := zK (Below.refl w.heap.size w)
 have H : ((impl_within.f (l0.length : Int) 1 24).bind fun t145 => (if t145 = true then (impl_IsExpr.l0 k l0 l0 (l0.length : Int) 0) else (some false))) = some r := h
 clear h
 replace H := Option.bind_eq_some_iff.mp H
 obtain ⟨t145, A20, H⟩ := H
 replace H : (if t145 = true then (impl_IsExpr.l0 k l0 l0 (l0.length : Int) 0) else (some false)) = some r := H
 have A2 := zK A20
 clear A20
 by_cases c3 : t145 = true
 ·subst c3
  rw [if_pos rfl] at H
  have H' := zK H
  clear H
  go_enter Try.func20, Try.ntmps20
  go_wp2_with (first | ((with_reducible refine gate_callee (f := 56) rfl ?_); refine goesL_ (some 7) rfl rfl Try.func56 yi rfl #[.int .i64 (l0.length : Int), .int .i64 1, .int .i64 24] rfl yb ?_; (with_reducible refine (impl_within.calls (l0.length : Int) 1 24 true _ A2.out).mono ?_); rintro e w' ⟨rfl, ⟨nd, rfl⟩⟩; refine ⟨_, rfl, ?_⟩))
  go_loopg [11] k (fun kq v11 w' => ∃ (x11_1 : Int), v11 = .int .i64 x11_1 ∧ Aside0 (impl_IsExpr.l0 kq l0 l0 (l0.length : Int) x11_1 = some r) ∧ Aside0 (kq ≤ k) ∧ Aside0 (Below w.heap.size w w'))
  case atStart => exact ⟨(0), ye, H', ⟨Nat.le_refl _⟩, ⟨ya⟩⟩
  case round =>
   clear H'
   try clear c2
   try clear p2
   try clear c3
   obtain ⟨x11_1, rfl, HA, HK1, HB⟩ := hrel
   cases gk with
   | zero => exact absurd HA.out (by simp [impl_IsExpr.l0])
   | succ k1 =>
    have H := HA.out
    clear HA
    simp only [impl_IsExpr.l0] at H
    by_cases c4 : x11_1 < (l0.length : Int)
    ·rw [if_pos c4] at H
     have c4b0 : decide (x11_1 < (l0.length : Int)) = true := decide_eq_true c4
     clear c4
     by_cases c5 : 0 ≤ x11_1
     ·rw [if_pos c5] at H
      have c5b0 : decide (0 ≤ x11_1) = true := decide_eq_true c5
      clear c5
      by_cases c6 : x11_1 < (l0.length : Int)
      ·rw [if_pos c6] at H
       have c6b0 : decide (x11_1 < (l0.length : Int)) = true := decide_eq_true c6
       clear c6
       replace H := Option.bind_eq_some_iff.mp H
       obtain ⟨t148, A70, H⟩ := H
       replace H : (if t148 = true then (impl_IsExpr.l0 k1 l0 l0 (l0.length : Int) (wrap64 (x11_1 + 1))) else (some false)) = some r := H
       have A7 := zK A70
       clear A70
       by_cases c8 : t148 = true
       ·subst c8
        rw [if_pos rfl] at H
        have H' := zK H
        clear H
        have p146 : 0 ≤ (x11_1 : Int) := zo
        have q146 : x11_1 < (l0.length : Int) := zo
        obtain ⟨ad146, e146, hx146_0, hx146_1, hx146_2, hx146_3⟩ := at_T47 HR0.out x11_1 p146 q146
        cases e146
        replace hx146_0 := zt HB.out hx146_0
        replace hx146_1 := zt HB.out hx146_1
        replace hx146_2 := zt HB.out hx146_2
        replace hx146_3 := zt HB.out hx146_3
        replace p146 := eq_true p146
        replace q146 := eq_true q146
        go_wp2_with (first | ((with_reducible refine gate_dst (N := 4) rfl ?_); refine box_event ?hg (N := 4) ?hd (cs := #[.string (⟨#[]⟩ : ByteArray), .int .i64 0, .int .i64 0, .int .i64 0]) (t := 47) ?hr ?_; (case hd | hg => rfl); (case hr => exact xxa); intro gb147 hg w9 hbox hb; have n0_ := zK (zL ya hb); have n1_ := zK (hbox); have n2_ := zK ((by rw [hg]; exact (zN ya) : w.heap.size ≤ gb147)); have n3_ := n2_; clear HB; have HB := n0_; have BK147 := n1_; have GW147 := n2_; have GE147 := n3_; clear n0_ n1_ n2_ n3_; clear hb hbox hg; have hcz10_0 : w9.cell? ⟨gb147, 0, none⟩ = some (.string (⟨#[]⟩ : ByteArray)) := (zI BK147.out 0).trans rfl; have hcz10_1 : w9.cell? ⟨gb147, 1, none⟩ = some (.int .i64 0) := (zI BK147.out 1).trans rfl; have hcz10_2 : w9.cell? ⟨gb147, 2, none⟩ = some (.int .i64 0) := (zI BK147.out 2).trans rfl; have hcz10_3 : w9.cell? ⟨gb147, 3, none⟩ = some (.int .i64 0) := (zI BK147.out 3).trans rfl; have hfz10_0 := zH BK147.out 0; have hfz10_1 := zH BK147.out 1; have hfz10_2 := zH BK147.out 2; have hfz10_3 := zH BK147.out 3) | ((with_reducible refine gate_callee (f := 70) rfl ?_); refine goesL_ (some 18) rfl rfl Try.func70 yi rfl #[.agg #[.string ((rd_T47 l0 x11_1).f0), .int .i64 ((rd_T47 l0 x11_1).f1), .int .i64 ((rd_T47 l0 x11_1).f2), .int .i64 ((rd_T47 l0 x11_1).f3)], .int .i64 x11_1] rfl yb ?_; (with_reducible refine (impl_Node_isNode.calls k1 ((rd_T47 l0 x11_1).f0) ((rd_T47 l0 x11_1).f1) ((rd_T47 l0 x11_1).f2) ((rd_T47 l0 x11_1).f3) x11_1 true _ A7.out).mono ?_); rintro e w11 ⟨rfl, hb⟩; refine ⟨_, rfl, ?_⟩; have n0_ := zK (zM (g := gb147) (o := .cells #[.string ((rd_T47 l0 x11_1).f0), .int .i64 ((rd_T47 l0 x11_1).f1), .int .i64 ((rd_T47 l0 x11_1).f2), .int .i64 ((rd_T47 l0 x11_1).f3)] 47 (0, 0)) (by (with_reducible repeat (first | refine zE ?_ _ | refine zF ?_ | refine zG ?_ _)); refine blk_put (cs := #[.string ((rd_T47 l0 x11_1).f0), .int .i64 ((rd_T47 l0 x11_1).f1), .int .i64 ((rd_T47 l0 x11_1).f2), .int .i64 0]) ?_ 3 _ rfl; (with_reducible repeat (first | refine zE ?_ _ | refine zF ?_ | refine zG ?_ _)); refine blk_put (cs := #[.string ((rd_T47 l0 x11_1).f0), .int .i64 ((rd_T47 l0 x11_1).f1), .int .i64 0, .int .i64 0]) ?_ 2 _ rfl; (with_reducible repeat (first | refine zE ?_ _ | refine zF ?_ | refine zG ?_ _)); refine blk_put (cs := #[.string ((rd_T47 l0 x11_1).f0), .int .i64 0, .int .i64 0, .int .i64 0]) ?_ 1 _ rfl; (with_reducible repeat (first | refine zE ?_ _ | refine zF ?_ | refine zG ?_ _)); refine blk_put (cs := #[.string (⟨#[]⟩ : ByteArray), .int .i64 0, .int .i64 0, .int .i64 0]) ?_ 0 _ rfl; (with_reducible repeat (first | refine zE ?_ _ | refine zF ?_ | refine zG ?_ _)); exact BK147.out) hb); have n1_ := zK (zL (by repeat (first | (with_reducible first | exact HB.out | apply zA | apply zB | apply zC | refine zD ?_ GE147.out) | exact HB.out)) hb); clear BK147; clear HB; have BK147 := n0_; have HB := n1_; clear n0_ n1_; (try clear hb); (try clear hb2); (try clear hk); (try clear hi)))
        go_roundg k1
        case measure => have := HK1.out; omega
        case rel => exact ⟨(wrap64 (x11_1 + 1)), ye, H', ⟨yb2⟩, ⟨by repeat (first | (with_reducible first | exact HB.out | apply zA | apply zB | apply zC | refine zD ?_ GE147.out) | exact HB.out)⟩⟩
       ·replace c8 := Bool.eq_false_iff.mpr c8
        subst c8
        rw [if_neg (show ¬ (false = true) by decide)] at H
        obtain rfl := Option.some.inj H
        have p146 : 0 ≤ (x11_1 : Int) := zo
        have q146 : x11_1 < (l0.length : Int) := zo
        obtain ⟨ad146, e146, hx146_0, hx146_1, hx146_2, hx146_3⟩ := at_T47 HR0.out x11_1 p146 q146
        cases e146
        replace hx146_0 := zt HB.out hx146_0
        replace hx146_1 := zt HB.out hx146_1
        replace hx146_2 := zt HB.out hx146_2
        replace hx146_3 := zt HB.out hx146_3
        replace p146 := eq_true p146
        replace q146 := eq_true q146
        go_wp2_with (first | ((with_reducible refine gate_dst (N := 4) rfl ?_); refine box_event ?hg (N := 4) ?hd (cs := #[.string (⟨#[]⟩ : ByteArray), .int .i64 0, .int .i64 0, .int .i64 0]) (t := 47) ?hr ?_; (case hd | hg => rfl); (case hr => exact xxa); intro gb147 hg w12 hbox hb; have n0_ := zK (zL ya hb); have n1_ := zK (hbox); have n2_ := zK ((by rw [hg]; exact (zN ya) : w.heap.size ≤ gb147)); have n3_ := n2_; clear HB; have HB := n0_; have BK147 := n1_; have GW147 := n2_; have GE147 := n3_; clear n0_ n1_ n2_ n3_; clear hb hbox hg; have hcz13_0 : w12.cell? ⟨gb147, 0, none⟩ = some (.string (⟨#[]⟩ : ByteArray)) := (zI BK147.out 0).trans rfl; have hcz13_1 : w12.cell? ⟨gb147, 1, none⟩ = some (.int .i64 0) := (zI BK147.out 1).trans rfl; have hcz13_2 : w12.cell? ⟨gb147, 2, none⟩ = some (.int .i64 0) := (zI BK147.out 2).trans rfl; have hcz13_3 : w12.cell? ⟨gb147, 3, none⟩ = some (.int .i64 0) := (zI BK147.out 3).trans rfl; have hfz13_0 := zH BK147.out 0; have hfz13_1 := zH BK147.out 1; have hfz13_2 := zH BK147.out 2; have hfz13_3 := zH BK147.out 3) | ((with_reducible refine gate_callee (f := 70) rfl ?_); refine goesL_ (some 18) rfl rfl Try.func70 yi rfl #[.agg #[.string ((rd_T47 l0 x11_1).f0), .int .i64 ((rd_T47 l0 x11_1).f1), .int .i64 ((rd_T47 l0 x11_1).f2), .int .i64 ((rd_T47 l0 x11_1).f3)], .int .i64 x11_1] rfl yb ?_; (with_reducible refine (impl_Node_isNode.calls k1 ((rd_T47 l0 x11_1).f0) ((rd_T47 l0 x11_1).f1) ((rd_T47 l0 x11_1).f2) ((rd_T47 l0 x11_1).f3) x11_1 false _ A7.out).mono ?_); rintro e w14 ⟨rfl, hb⟩; refine ⟨_, rfl, ?_⟩; have n0_ := zK (zM (g := gb147) (o := .cells #[.string ((rd_T47 l0 x11_1).f0), .int .i64 ((rd_T47 l0 x11_1).f1), .int .i64 ((rd_T47 l0 x11_1).f2), .int .i64 ((rd_T47 l0 x11_1).f3)] 47 (0, 0)) (by (with_reducible repeat (first | refine zE ?_ _ | refine zF ?_ | refine zG ?_ _)); refine blk_put (cs := #[.string ((rd_T47 l0 x11_1).f0), .int .i64 ((rd_T47 l0 x11_1).f1), .int .i64 ((rd_T47 l0 x11_1).f2), .int .i64 0]) ?_ 3 _ rfl; (with_reducible repeat (first | refine zE ?_ _ | refine zF ?_ | refine zG ?_ _)); refine blk_put (cs := #[.string ((rd_T47 l0 x11_1).f0), .int .i64 ((rd_T47 l0 x11_1).f1), .int .i64 0, .int .i64 0]) ?_ 2 _ rfl; (with_reducible repeat (first | refine zE ?_ _ | refine zF ?_ | refine zG ?_ _)); refine blk_put (cs := #[.string ((rd_T47 l0 x11_1).f0), .int .i64 0, .int .i64 0, .int .i64 0]) ?_ 1 _ rfl; (with_reducible repeat (first | refine zE ?_ _ | refine zF ?_ | refine zG ?_ _)); refine blk_put (cs := #[.string (⟨#[]⟩ : ByteArray), .int .i64 0, .int .i64 0, .int .i64 0]) ?_ 0 _ rfl; (with_reducible repeat (first | refine zE ?_ _ | refine zF ?_ | refine zG ?_ _)); exact BK147.out) hb); have n1_ := zK (zL (by repeat (first | (with_reducible first | exact HB.out | apply zA | apply zB | apply zC | refine zD ?_ GE147.out) | exact HB.out)) hb); clear BK147; clear HB; have BK147 := n0_; have HB := n1_; clear n0_ n1_; (try clear hb); (try clear hb2); (try clear hk); (try clear hi)))
        go_ret
        exact ⟨yd, by repeat (first | (with_reducible first | exact HB.out | apply zA | apply zB | apply zC | refine zD ?_ GE147.out) | exact HB.out)⟩
      ·rw [if_neg c6] at H
       exact absurd H ye1
     ·rw [if_neg c5] at H
      exact absurd H ye1
    ·rw [if_neg c4] at H
     have c4b0 : decide (x11_1 < (l0.length : Int)) = false := decide_eq_false c4
     clear c4
     replace H := Option.bind_eq_some_iff.mp H
     obtain ⟨t149, A150, H⟩ := H
     replace H : (if 0 ≤ (wrap64 ((l0.length : Int) - 1)) then (if (wrap64 ((l0.length : Int) - 1)) ≤ (t149.length : Int) then ((slices_Contains_int_int.f k1 (t149.take ((wrap64 ((l0.length : Int) - 1)) : Int).toNat) 0).bind fun t156 => (some (!t156))) else (none)) else (none)) = some r := H
     have A15 := zK A150
     clear A150
     obtain ⟨ji16, hji16⟩ : ∃ j_ : Int, (wrap64 ((l0.length : Int) - 1)) = j_ := ⟨_, rfl⟩
     replace H : (if 0 ≤ (ji16) then (if (ji16) ≤ (t149.length : Int) then ((slices_Contains_int_int.f k1 (t149.take ((ji16) : Int).toNat) 0).bind fun t156 => (some (!t156))) else (none)) else (none)) = some r := by first | (rw [hji16] at H; exact H) | (simp only [hji16] at H ⊢; exact H)
     (try rw [hji16] at A15)
     have hji16w : (IntKind.i64.wrap ((l0.length : Int) - 1)) = ji16 := (i64_w _).trans hji16
     by_cases c17 : 0 ≤ (ji16)
     ·rw [if_pos c17] at H
      have c17b0 := eq_true c17
      have c17b1 : decide (0 ≤ (ji16)) = true := decide_eq_true c17
      clear c17
      by_cases c18 : (ji16) ≤ (t149.length : Int)
      ·rw [if_pos c18] at H
       have c18b0 := eq_true c18
       have c18b1 : decide ((ji16) ≤ (t149.length : Int)) = true := decide_eq_true c18
       clear c18
       obtain ⟨y152, hy152⟩ : ∃ y_ : List Int, y_ = (t149.take ((ji16) : Int).toNat) := ⟨_, rfl⟩
       replace H : ((slices_Contains_int_int.f k1 y152 0).bind fun t156 => (some (!t156))) = some r := by have hy_ := hy152; exact xH
       have Ny152 := zK hy152
       clear hy152
       replace H := Option.bind_eq_some_iff.mp H
       obtain ⟨t156, A190, H⟩ := H
       replace H : (some (!t156)) = some r := H
       have A19 := zK A190
       clear A190
       obtain rfl := Option.some.inj H
       go_wp2_with (first | ((with_reducible refine gate_callee (f := 64) rfl ?_); refine goesL_ (some 22) rfl rfl Try.func64 yi rfl #[.slice A0 l0.length c0] rfl yb ?_; (with_reducible refine (impl_uses.calls k1 _ _ l0 t149 _ ?side1 ?side2 A15.out).mono ?_); (case side1 => exact xxd); (case side2 => exact HC0.out); rintro e w20 ⟨v150, rfl, ho0, hb⟩; refine ⟨_, rfl, ?_⟩; have n0_ := zK (Kd.R_lower ho0 (zN ya)); have n1_ := zK (zL ya hb); clear HB; have HO151 := n0_; have HB := n1_; clear n0_ n1_; (try clear hb); (try clear hb2); (try clear hk); (try clear hi); (try clear ho0); obtain ⟨Ao22, co22, eo22⟩ := Kd.R_slice HO151.out; subst eo22; have q21 : ((ji16) : Int) ≤ ((t149.length : Int) : Int) := zo; obtain ⟨i021, hi021, _, hsz21, _⟩ := info_parts info3; have hroom21 : t149.length ≤ co22 := (Kd.R_reads' HO151.out).2.1; have hC21 : Kd.C (Kd.int .i64) _ Ao22 t149.length t149 := (Kd.R_reads' HO151.out).2.2; have hcut21 := cut_to (P := Try.prog) 31 3 .i64 Try.underlying31 hi021 Ao22 t149.length co22 (ji16) (zo) q21 hroom21; have hr21 := Kd.C_take (m := ((ji16) : Int).toNat) hC21 (by omega); have hy21 : y152.length = ((ji16) : Int).toNat := (by rw [Ny152.out, z5]; omega); rw [← Ny152.out] at hr21; rw [← hy21] at hcut21; have HR155 := zK hr21; have HC155 := zK (show y152.length ≤ co22 from by omega); clear hr21 hC21 hroom21 hi021 hsz21; have KY21 := zK hy21; clear hy21; have KL21 := zK (show ((ji16) : Int).toNat ≤ t149.length from by omega); replace q21 := eq_true q21) | ((with_reducible refine gate_callee (f := 71) rfl ?_); refine goesL_ (some 27) rfl rfl Try.func71 yi rfl #[.slice Ao22 y152.length co22, .int .i64 0] rfl yb ?_; (with_reducible refine (slices_Contains_int_int.calls k1 _ _ y152 0 t156 _ ?side1 ?side2 A19.out).mono ?_); (case side1 => repeat (first | exact (by repeat (first | (with_reducible exact HR155.out) | (with_reducible refine Kd.C_alloc ?_ _) | (with_reducible refine Kd.C_drewN ?_ _) | (with_reducible refine Kd.C_drew ?_) | exact HR155.out)) | (with_reducible refine Kd.C_alloc ?_ _) | (with_reducible refine Kd.C_drewN ?_ _) | (with_reducible refine Kd.C_drew ?_))); (case side2 => exact HC155.out); rintro e w' ⟨rfl, ⟨nd, rfl⟩⟩; refine ⟨_, rfl, ?_⟩))
       go_ret
       exact ⟨by first | rfl | (simp [errW_none, errW_some] <;> rfl) | (simp only [← hji16]; first | rfl | (simp [errW_none, errW_some] <;> rfl)) | (simp [*, errW_none, errW_some] <;> rfl), ya⟩
      ·rw [if_neg c18] at H
       exact absurd H ye1
     ·rw [if_neg c17] at H
      exact absurd H ye1
 ·replace c3 := Bool.eq_false_iff.mpr c3
  subst c3
  rw [if_neg (show ¬ (false = true) by decide)] at H
  obtain rfl := Option.some.inj H
  go_enter Try.func20, Try.ntmps20
  go_wp2_with (first | ((with_reducible refine gate_callee (f := 56) rfl ?_); refine goesL_ (some 7) rfl rfl Try.func56 yi rfl #[.int .i64 (l0.length : Int), .int .i64 1, .int .i64 24] rfl yb ?_; (with_reducible refine (impl_within.calls (l0.length : Int) 1 24 false _ A2.out).mono ?_); rintro e w' ⟨rfl, ⟨nd, rfl⟩⟩; refine ⟨_, rfl, ?_⟩))
  go_ret
  exact ⟨yd, ya⟩

/-! ### impl_bit: function 96 -/
def impl_bit.f (a0 : Bool) : Option (Int) := if a0 = true then (some 1) else (some 0)
set_option maxHeartbeats 8000000 in
set_option maxRecDepth 100000 in
theorem impl_bit.calls (a0 : Bool) (r : Int) (w : World) (h : impl_bit.f a0 = some r) :
  Calls Try.prog 96 #[.bool a0] w fun e w' => e = .returned (.int .i64 r) ∧ Drawn0 w w' := by
 have H : (if a0 = true then (some 1) else (some 0)) = some r := h
 clear h
 by_cases c2 : a0 = true
 ·subst c2
  rw [if_pos rfl] at H
  obtain rfl := Option.some.inj H
  go_enter Try.func96, Try.ntmps96
  go_wp2
  go_ret
  exact ⟨ye, yg⟩
 ·replace c2 := Bool.eq_false_iff.mpr c2
  subst c2
  rw [if_neg (show ¬ (false = true) by decide)] at H
  obtain rfl := Option.some.inj H
  go_enter Try.func96, Try.ntmps96
  go_wp2
  go_ret
  exact ⟨ye, yg⟩

/-! ### impl_apply: function 85 -/
def impl_apply.f (a0 : ByteArray) (a1 : Int) (a2 : Int) : Option (Int) := if a0.toList = ([110, 111, 116] : List UInt8) then (some (Go.bits .and .i64 (wrap64 (63 - a1)) 63)) else (if a0.toList = ([110, 101, 103] : List UInt8) then (some (Go.bits .and .i64 (wrap64 (-a1)) 63)) else (if a0.toList = ([97, 100, 100] : List UInt8) then (some (Go.bits .and .i64 (wrap64 (a1 + a2)) 63)) else (if a0.toList = ([115, 117, 98] : List UInt8) then (some (Go.bits .and .i64 (wrap64 (a1 - a2)) 63)) else (if a0.toList = ([109, 117, 108] : List UInt8) then (some (Go.bits .and .i64 (wrap64 (a1 * a2)) 63)) else (if a0.toList = ([97, 110, 100] : List UInt8) then (some (Go.bits .and .i64 (Go.bits .and .i64 a1 a2) 63)) else (if a0.toList = ([111, 114] : List UInt8) then (some (Go.bits .and .i64 (Go.bits .or .i64 a1 a2) 63)) else (if a0.toList = ([120, 111, 114] : List UInt8) then (some (Go.bits .and .i64 (Go.bits .xor .i64 a1 a2) 63)) else (if a0.toList = ([115, 104, 108] : List UInt8) then (if a2 < 6 then (if 0 ≤ a2 then (some (Go.bits .and .i64 (shl .i64 a1 a2) 63)) else (none)) else (some (Go.bits .and .i64 0 63))) else (if a0.toList = ([115, 104, 114] : List UInt8) then (if a2 < 6 then (if 0 ≤ a2 then (some (Go.bits .and .i64 (shr .i64 a1 a2) 63)) else (none)) else (some (Go.bits .and .i64 0 63))) else (if a0.toList = ([108, 101, 115, 115] : List UInt8) then ((impl_bit.f (decide (a1 < a2))).bind fun t157 => (some (Go.bits .and .i64 t157 63))) else (if a0.toList = ([101, 113] : List UInt8) then ((impl_bit.f (a1 == a2)).bind fun t158 => (some (Go.bits .and .i64 t158 63))) else (some (Go.bits .and .i64 0 63)))))))))))))
set_option maxHeartbeats 8000000 in
set_option maxRecDepth 100000 in
theorem impl_apply.calls (a0 : ByteArray) (a1 : Int) (a2 : Int) (r : Int) (w : World) (h : impl_apply.f a0 a1 a2 = some r) :
  Calls Try.prog 85 #[.string a0, .int .i64 a1, .int .i64 a2] w fun e w' => e = .returned (.int .i64 r) ∧ Drawn0 w w' := by
 have H : (if a0.toList = ([110, 111, 116] : List UInt8) then (some (Go.bits .and .i64 (wrap64 (63 - a1)) 63)) else (if a0.toList = ([110, 101, 103] : List UInt8) then (some (Go.bits .and .i64 (wrap64 (-a1)) 63)) else (if a0.toList = ([97, 100, 100] : List UInt8) then (some (Go.bits .and .i64 (wrap64 (a1 + a2)) 63)) else (if a0.toList = ([115, 117, 98] : List UInt8) then (some (Go.bits .and .i64 (wrap64 (a1 - a2)) 63)) else (if a0.toList = ([109, 117, 108] : List UInt8) then (some (Go.bits .and .i64 (wrap64 (a1 * a2)) 63)) else (if a0.toList = ([97, 110, 100] : List UInt8) then (some (Go.bits .and .i64 (Go.bits .and .i64 a1 a2) 63)) else (if a0.toList = ([111, 114] : List UInt8) then (some (Go.bits .and .i64 (Go.bits .or .i64 a1 a2) 63)) else (if a0.toList = ([120, 111, 114] : List UInt8) then (some (Go.bits .and .i64 (Go.bits .xor .i64 a1 a2) 63)) else (if a0.toList = ([115, 104, 108] : List UInt8) then (if a2 < 6 then (if 0 ≤ a2 then (some (Go.bits .and .i64 (shl .i64 a1 a2) 63)) else (none)) else (some (Go.bits .and .i64 0 63))) else (if a0.toList = ([115, 104, 114] : List UInt8) then (if a2 < 6 then (if 0 ≤ a2 then (some (Go.bits .and .i64 (shr .i64 a1 a2) 63)) else (none)) else (some (Go.bits .and .i64 0 63))) else (if a0.toList = ([108, 101, 115, 115] : List UInt8) then ((impl_bit.f (decide (a1 < a2))).bind fun t157 => (some (Go.bits .and .i64 t157 63))) else (if a0.toList = ([101, 113] : List UInt8) then ((impl_bit.f (a1 == a2)).bind fun t158 => (some (Go.bits .and .i64 t158 63))) else (some (Go.bits .and .i64 0 63)))))))))))))) = some r := h
 clear h
 by_cases c4 : a0.toList = ([110, 111, 116] : List UInt8)
 ·rw [if_pos c4] at H
  have c4b0 : (a0.toList == ([110, 111, 116] : List UInt8)) = true := beq_iff_eq.mpr c4
  have c4b1 : (a0.toList != ([110, 111, 116] : List UInt8)) = false := bne_eq_false_iff_eq.mpr c4
  clear c4
  obtain rfl := Option.some.inj H
  go_enter Try.func85, Try.ntmps85
  go_wp2
  go_ret
  exact ⟨ye, yg⟩
 ·rw [if_neg c4] at H
  have c4b0 : (a0.toList == ([110, 111, 116] : List UInt8)) = false := beq_eq_false_iff_ne.mpr c4
  have c4b1 : (a0.toList != ([110, 111, 116] : List UInt8)) = true := bne_iff_ne.mpr c4
  by_cases c5 : a0.toList = ([110, 101, 103] : List UInt8)
  ·rw [if_pos c5] at H
   have c5b0 : (a0.toList == ([110, 101, 103] : List UInt8)) = true := beq_iff_eq.mpr c5
   have c5b1 : (a0.toList != ([110, 101, 103] : List UInt8)) = false := bne_eq_false_iff_eq.mpr c5
   clear c5
   obtain rfl := Option.some.inj H
   go_enter Try.func85, Try.ntmps85
   go_wp2
   go_ret
   exact ⟨ye, yg⟩
  ·rw [if_neg c5] at H
   have c5b0 : (a0.toList == ([110, 101, 103] : List UInt8)) = false := beq_eq_false_iff_ne.mpr c5
   have c5b1 : (a0.toList != ([110, 101, 103] : List UInt8)) = true := bne_iff_ne.mpr c5
   by_cases c6 : a0.toList = ([97, 100, 100] : List UInt8)
   ·rw [if_pos c6] at H
    have c6b0 : (a0.toList == ([97, 100, 100] : List UInt8)) = true := beq_iff_eq.mpr c6
    have c6b1 : (a0.toList != ([97, 100, 100] : List UInt8)) = false := bne_eq_false_iff_eq.mpr c6
    clear c6
    obtain rfl := Option.some.inj H
    go_enter Try.func85, Try.ntmps85
    go_wp2
    go_ret
    exact ⟨ye, yg⟩
   ·rw [if_neg c6] at H
    have c6b0 : (a0.toList == ([97, 100, 100] : List UInt8)) = false := beq_eq_false_iff_ne.mpr c6
    have c6b1 : (a0.toList != ([97, 100, 100] : List UInt8)) = true := bne_iff_ne.mpr c6
    by_cases c7 : a0.toList = ([115, 117, 98] : List UInt8)
    ·rw [if_pos c7] at H
     have c7b0 : (a0.toList == ([115, 117, 98] : List UInt8)) = true := beq_iff_eq.mpr c7
     have c7b1 : (a0.toList != ([115, 117, 98] : List UInt8)) = false := bne_eq_false_iff_eq.mpr c7
     clear c7
     obtain rfl := Option.some.inj H
     go_enter Try.func85, Try.ntmps85
     go_wp2
     go_ret
     exact ⟨ye, yg⟩
    ·rw [if_neg c7] at H
     have c7b0 : (a0.toList == ([115, 117, 98] : List UInt8)) = false := beq_eq_false_iff_ne.mpr c7
     have c7b1 : (a0.toList != ([115, 117, 98] : List UInt8)) = true := bne_iff_ne.mpr c7
     by_cases c8 : a0.toList = ([109, 117, 108] : List UInt8)
     ·rw [if_pos c8] at H
      have c8b0 : (a0.toList == ([109, 117, 108] : List UInt8)) = true := beq_iff_eq.mpr c8
      have c8b1 : (a0.toList != ([109, 117, 108] : List UInt8)) = false := bne_eq_false_iff_eq.mpr c8
      clear c8
      obtain rfl := Option.some.inj H
      go_enter Try.func85, Try.ntmps85
      go_wp2
      go_ret
      exact ⟨ye, yg⟩
     ·rw [if_neg c8] at H
      have c8b0 : (a0.toList == ([109, 117, 108] : List UInt8)) = false := beq_eq_false_iff_ne.mpr c8
      have c8b1 : (a0.toList != ([109, 117, 108] : List UInt8)) = true := bne_iff_ne.mpr c8
      by_cases c9 : a0.toList = ([97, 110, 100] : List UInt8)
      ·rw [if_pos c9] at H
       have c9b0 : (a0.toList == ([97, 110, 100] : List UInt8)) = true := beq_iff_eq.mpr c9
       have c9b1 : (a0.toList != ([97, 110, 100] : List UInt8)) = false := bne_eq_false_iff_eq.mpr c9
       clear c9
       obtain rfl := Option.some.inj H
       go_enter Try.func85, Try.ntmps85
       go_wp2
       go_ret
       exact ⟨ye, yg⟩
      ·rw [if_neg c9] at H
       have c9b0 : (a0.toList == ([97, 110, 100] : List UInt8)) = false := beq_eq_false_iff_ne.mpr c9
       have c9b1 : (a0.toList != ([97, 110, 100] : List UInt8)) = true := bne_iff_ne.mpr c9
       by_cases c10 : a0.toList = ([111, 114] : List UInt8)
       ·rw [if_pos c10] at H
        have c10b0 : (a0.toList == ([111, 114] : List UInt8)) = true := beq_iff_eq.mpr c10
        have c10b1 : (a0.toList != ([111, 114] : List UInt8)) = false := bne_eq_false_iff_eq.mpr c10
        clear c10
        obtain rfl := Option.some.inj H
        go_enter Try.func85, Try.ntmps85
        go_wp2
        go_ret
        exact ⟨ye, yg⟩
       ·rw [if_neg c10] at H
        have c10b0 : (a0.toList == ([111, 114] : List UInt8)) = false := beq_eq_false_iff_ne.mpr c10
        have c10b1 : (a0.toList != ([111, 114] : List UInt8)) = true := bne_iff_ne.mpr c10
        by_cases c11 : a0.toList = ([120, 111, 114] : List UInt8)
        ·rw [if_pos c11] at H
         have c11b0 : (a0.toList == ([120, 111, 114] : List UInt8)) = true := beq_iff_eq.mpr c11
         have c11b1 : (a0.toList != ([120, 111, 114] : List UInt8)) = false := bne_eq_false_iff_eq.mpr c11
         clear c11
         obtain rfl := Option.some.inj H
         go_enter Try.func85, Try.ntmps85
         go_wp2
         go_ret
         exact ⟨ye, yg⟩
        ·rw [if_neg c11] at H
         have c11b0 : (a0.toList == ([120, 111, 114] : List UInt8)) = false := beq_eq_false_iff_ne.mpr c11
         have c11b1 : (a0.toList != ([120, 111, 114] : List UInt8)) = true := bne_iff_ne.mpr c11
         by_cases c12 : a0.toList = ([115, 104, 108] : List UInt8)
         ·rw [if_pos c12] at H
          have c12b0 : (a0.toList == ([115, 104, 108] : List UInt8)) = true := beq_iff_eq.mpr c12
          have c12b1 : (a0.toList != ([115, 104, 108] : List UInt8)) = false := bne_eq_false_iff_eq.mpr c12
          clear c12
          by_cases c13 : a2 < 6
          ·rw [if_pos c13] at H
           have c13b0 : decide (a2 < 6) = true := decide_eq_true c13
           clear c13
           by_cases c14 : 0 ≤ a2
           ·rw [if_pos c14] at H
            have c14b0 := eq_true c14
            have c14b1 : decide (0 ≤ a2) = true := decide_eq_true c14
            clear c14
            obtain ⟨ji15, hji15⟩ : ∃ j_ : Int, (shl .i64 a1 a2) = j_ := ⟨_, rfl⟩
            replace H : (some (Go.bits .and .i64 (ji15) 63)) = some r := by first | (rw [hji15] at H; exact H) | (simp only [hji15] at H ⊢; exact H)
            have hji15_ : (IntKind.i64.wrap (a1 * 2 ^ min a2.toNat 64)) = ji15 := hji15
            have hji15z : a2 ≤ 64 → (IntKind.i64.wrap (a1 * 2 ^ a2.toNat)) = ji15 := shl_small hji15
            have hji15y : (wrap64 (a1 * 2 ^ min a2.toNat 64)) = ji15 := (i64_w _).symm.trans hji15_
            have hji15x : a2 ≤ 64 → (wrap64 (a1 * 2 ^ a2.toNat)) = ji15 := fun h_ => (i64_w _).symm.trans (hji15z h_)
            obtain rfl := Option.some.inj H
            go_enter Try.func85, Try.ntmps85
            go_wp2
            go_ret
            exact ⟨by first | rfl | (simp; done) | (simp only [← hji15] <;> (first | rfl | simp)) | (simp [*]; done), yg⟩
           ·rw [if_neg c14] at H
            exact absurd H ye1
          ·rw [if_neg c13] at H
           have c13b0 : decide (a2 < 6) = false := decide_eq_false c13
           clear c13
           obtain rfl := Option.some.inj H
           go_enter Try.func85, Try.ntmps85
           go_wp2
           go_ret
           exact ⟨ye, yg⟩
         ·rw [if_neg c12] at H
          have c12b0 : (a0.toList == ([115, 104, 108] : List UInt8)) = false := beq_eq_false_iff_ne.mpr c12
          have c12b1 : (a0.toList != ([115, 104, 108] : List UInt8)) = true := bne_iff_ne.mpr c12
          by_cases c16 : a0.toList = ([115, 104, 114] : List UInt8)
          ·rw [if_pos c16] at H
           have c16b0 : (a0.toList == ([115, 104, 114] : List UInt8)) = true := beq_iff_eq.mpr c16
           have c16b1 : (a0.toList != ([115, 104, 114] : List UInt8)) = false := bne_eq_false_iff_eq.mpr c16
           clear c16
           by_cases c17 : a2 < 6
           ·rw [if_pos c17] at H
            have c17b0 : decide (a2 < 6) = true := decide_eq_true c17
            clear c17
            by_cases c18 : 0 ≤ a2
            ·rw [if_pos c18] at H
             have c18b0 := eq_true c18
             have c18b1 : decide (0 ≤ a2) = true := decide_eq_true c18
             clear c18
             obtain ⟨ji19, hji19⟩ : ∃ j_ : Int, (shr .i64 a1 a2) = j_ := ⟨_, rfl⟩
             replace H : (some (Go.bits .and .i64 (ji19) 63)) = some r := by first | (rw [hji19] at H; exact H) | (simp only [hji19] at H ⊢; exact H)
             have hji19_ : (a1 / 2 ^ min a2.toNat 64) = ji19 := hji19
             have hji19z : a2 ≤ 64 → (a1 / 2 ^ a2.toNat) = ji19 := shr_small hji19
             obtain rfl := Option.some.inj H
             go_enter Try.func85, Try.ntmps85
             go_wp2
             go_ret
             exact ⟨by first | rfl | (simp; done) | (simp only [← hji19] <;> (first | rfl | simp)) | (simp [*]; done), yg⟩
            ·rw [if_neg c18] at H
             exact absurd H ye1
           ·rw [if_neg c17] at H
            have c17b0 : decide (a2 < 6) = false := decide_eq_false c17
            clear c17
            obtain rfl := Option.some.inj H
            go_enter Try.func85, Try.ntmps85
            go_wp2
            go_ret
            exact ⟨ye, yg⟩
          ·rw [if_neg c16] at H
           have c16b0 : (a0.toList == ([115, 104, 114] : List UInt8)) = false := beq_eq_false_iff_ne.mpr c16
           have c16b1 : (a0.toList != ([115, 104, 114] : List UInt8)) = true := bne_iff_ne.mpr c16
           by_cases c20 : a0.toList = ([108, 101, 115, 115] : List UInt8)
           ·rw [if_pos c20] at H
            have c20b0 : (a0.toList == ([108, 101, 115, 115] : List UInt8)) = true := beq_iff_eq.mpr c20
            have c20b1 : (a0.toList != ([108, 101, 115, 115] : List UInt8)) = false := bne_eq_false_iff_eq.mpr c20
            clear c20
            replace H := Option.bind_eq_some_iff.mp H
            obtain ⟨t157, A210, H⟩ := H
            replace H : (some (Go.bits .and .i64 t157 63)) = some r := H
            have A21 := zK A210
            clear A210
            obtain rfl := Option.some.inj H
            go_enter Try.func85, Try.ntmps85
            go_wp2_with (first | ((with_reducible refine gate_callee (f := 96) rfl ?_); refine goesL_ (some 66) rfl rfl Try.func96 yi rfl #[.bool (decide (a1 < a2))] rfl yb ?_; (with_reducible refine (impl_bit.calls (decide (a1 < a2)) t157 _ A21.out).mono ?_); rintro e w' ⟨rfl, ⟨nd, rfl⟩⟩; refine ⟨_, rfl, ?_⟩))
            go_ret
            exact ⟨ye, yg⟩
           ·rw [if_neg c20] at H
            have c20b0 : (a0.toList == ([108, 101, 115, 115] : List UInt8)) = false := beq_eq_false_iff_ne.mpr c20
            have c20b1 : (a0.toList != ([108, 101, 115, 115] : List UInt8)) = true := bne_iff_ne.mpr c20
            by_cases c22 : a0.toList = ([101, 113] : List UInt8)
            ·rw [if_pos c22] at H
             have c22b0 : (a0.toList == ([101, 113] : List UInt8)) = true := beq_iff_eq.mpr c22
             have c22b1 : (a0.toList != ([101, 113] : List UInt8)) = false := bne_eq_false_iff_eq.mpr c22
             clear c22
             replace H := Option.bind_eq_some_iff.mp H
             obtain ⟨t158, A230, H⟩ := H
             replace H : (some (Go.bits .and .i64 t158 63)) = some r := H
             have A23 := zK A230
             clear A230
             obtain rfl := Option.some.inj H
             go_enter Try.func85, Try.ntmps85
             go_wp2_with (first | ((with_reducible refine gate_callee (f := 96) rfl ?_); refine goesL_ (some 72) rfl rfl Try.func96 yi rfl #[.bool (a1 == a2)] rfl yb ?_; (with_reducible refine (impl_bit.calls (a1 == a2) t158 _ A23.out).mono ?_); rintro e w' ⟨rfl, ⟨nd, rfl⟩⟩; refine ⟨_, rfl, ?_⟩))
             go_ret
             exact ⟨ye, yg⟩
            ·rw [if_neg c22] at H
             have c22b0 : (a0.toList == ([101, 113] : List UInt8)) = false := beq_eq_false_iff_ne.mpr c22
             have c22b1 : (a0.toList != ([101, 113] : List UInt8)) = true := bne_iff_ne.mpr c22
             obtain rfl := Option.some.inj H
             go_enter Try.func85, Try.ntmps85
             go_wp2
             go_ret
             exact ⟨ye, yg⟩

/-! ### impl_values: function 73 -/
def impl_values.l0 : Nat → Int → Int → List Int → List (S47) → Int → Int → Option (List Int)
 | 0, _, _, _, _, _, _ => none
 | k + 1, x1, x2, x7, x13, x14, x15 => if x15 < x14 then (if 0 ≤ x15 then (if x15 < (x13.length : Int) then (if ((rd_T47 x13 x15).f0).toList = ([105, 110] : List UInt8) then ((some (([x1, x2] : List Int) : List Int)).bind fun y164 => (if 0 ≤ ((rd_T47 x13 x15).f3) then (if ((rd_T47 x13 x15).f3) < (y164.length : Int) then (if x15 < (x7.length : Int) then (impl_values.l0 k x1 x2 (x7.set (x15 : Int).toNat (rd y164 ((rd_T47 x13 x15).f3))) x13 x14 (wrap64 (x15 + 1))) else (none)) else (none)) else (none))) else (if ((rd_T47 x13 x15).f0).toList = ([99, 111, 110, 115, 116] : List UInt8) then (if x15 < (x7.length : Int) then (impl_values.l0 k x1 x2 (x7.set (x15 : Int).toNat ((rd_T47 x13 x15).f3)) x13 x14 (wrap64 (x15 + 1))) else (none)) else (if 0 ≤ ((rd_T47 x13 x15).f1) then (if ((rd_T47 x13 x15).f1) < (x7.length : Int) then (if 0 ≤ ((rd_T47 x13 x15).f2) then (if ((rd_T47 x13 x15).f2) < (x7.length : Int) then ((impl_apply.f ((rd_T47 x13 x15).f0) (rd x7 ((rd_T47 x13 x15).f1)) (rd x7 ((rd_T47 x13 x15).f2))).bind fun t172 => (if x15 < (x7.length : Int) then (impl_values.l0 k x1 x2 (x7.set (x15 : Int).toNat t172) x13 x14 (wrap64 (x15 + 1))) else (none))) else (none)) else (none)) else (none)) else (none)))) else (none)) else (none)) else (some x7)
def impl_values.f (k : Nat) (l0 : List (S47)) (a1 : Int) (a2 : Int) : Option (List Int) := if 0 ≤ (l0.length : Int) then (if ((l0.length : Int) : Int).toNat ≤ 35184372088832 then (impl_values.l0 k a1 a2 (List.replicate ((l0.length : Int) : Int).toNat 0) l0 (l0.length : Int) 0) else (none)) else (none)
def impl_values.T6 : Bool × List (List Nat × List Nat) := (true, [([], []), ([], []), ([], []), ([2], [2]), ([], []), ([], []), ([5], [5]), ([4, 6], [4, 6]), ([7], [7]), ([], []), ([], []), ([10], [10]), ([9, 11], [9, 11]), ([12], [12]), ([3, 8, 13], [3, 8, 13]), ([0, 1, 0, 1, 2, 3, 4, 5, 6, 7, 8, 9, 10, 11, 12, 13, 14], [0, 1]), ([15, 14, 14, 0, 1, 2, 3, 4, 5, 6, 7, 8, 9, 10, 11, 12, 13, 14], [14, 15])])
def impl_values.B6 : List Nat := [0, 0, 0, 4, 0, 0, 32, 112, 240, 0, 0, 1024, 3584, 7680, 16380, 32767, 65535]
theorem impl_values.tab6 : rtab .any (opsOf Try.f73 6) = impl_values.T6 := by kernel_rfl
theorem impl_values.bits6 : waitsOk impl_values.T6.2 impl_values.B6 = true := by kernel_rfl
set_option maxHeartbeats 8000000 in
set_option maxRecDepth 100000 in
theorem impl_values.calls (k : Nat) (A0 : Option Addr) (c0 : Nat) (l0 : List (S47)) (a1 : Int) (a2 : Int) (r : List Int) (w : World) (hr0 : Kd.C k47 w A0 l0.length l0) (hc0 : l0.length ≤ c0) (h : impl_values.f k l0 a1 a2 = some r) :
  Calls Try.prog 73 #[.slice A0 l0.length c0, .int .i64 a1, .int .i64 a2] w fun e w' => ∃ v0_ : Value, e = .returned (v0_) ∧ Kd.R (Kd.int .i64) 3 w' w.heap.size (fun _ => True) v0_ r ∧ Below w.heap.size w w' := by
 have hu47 := Try.underlying47
 have HR0 := zK hr0
 have HC0 := zK hc0
 clear hr0 hc0
 have HB := zK (Below.refl w.heap.size w)
 have H : (if 0 ≤ (l0.length : Int) then (if ((l0.length : Int) : Int).toNat ≤ 35184372088832 then (impl_values.l0 k a1 a2 (List.replicate ((l0.length : Int) : Int).toNat 0) l0 (l0.length : Int) 0) else (none)) else (none)) = some r := h
 clear h
 by_cases c4 : 0 ≤ (l0.length : Int)
 ·rw [if_pos c4] at H
  have c4b0 := eq_true c4
  have c4b1 : decide (0 ≤ (l0.length : Int)) = true := decide_eq_true c4
  clear c4
  by_cases c5 : ((l0.length : Int) : Int).toNat ≤ 35184372088832
  ·rw [if_pos c5] at H
   have c5b0 := eq_true c5
   have c5b1 : decide (((l0.length : Int) : Int).toNat ≤ 35184372088832) = true := decide_eq_true c5
   clear c5
   obtain ⟨y159, hy159⟩ : ∃ y_ : List Int, y_ = (List.replicate ((l0.length : Int) : Int).toNat 0) := ⟨_, rfl⟩
   replace H : (impl_values.l0 k a1 a2 y159 l0 (l0.length : Int) 0) = some r := by have hy_ := hy159; exact xH
   have Ny159 := zK hy159
   clear hy159
   have H' := zK H
   clear H
   go_enter Try.func73, Try.ntmps73
   go_wp2_with (first | ((with_reducible refine gate_dst (N := 12) rfl ?_); refine Kd.R_make (Kd.int .i64) _ 3 rfl (N := 12) rfl 31 _ _ rfl (l0.length : Int) rfl rfl Try.underlying31 (.int .i64 0) 8 info3 rfl yp1 (by omega) 0 (ok := fun _ => True) (okp := fun _ => True) rfl (fun _ hk => hk) trivial (zo) (Nat.le_trans (Nat.mul_le_mul_right _ (zo : (l0.length : Int).toNat ≤ 35184372088832)) (by omega)) (Below.refl _ _) (Nat.le_refl _) ?_; intro v160 w6 ho7 hb hg_ hnew_; clear hg_ hnew_; (first | rw [← Ny159.out] at ho7 | (simp only [Int.reduceToNat] at ho7; rw [← Ny159.out] at ho7)); have n0_ := zK (Kd.R_lower ho7 (zN ya)); have n1_ := zK (zL ya hb); clear HB; have HO161 := n0_; have HB := n1_; clear n0_ n1_; clear hb ho7))
   go_loopg [15] k (fun kq v15 w' => ∃ (x7_1 : List Int) (x15_1 : Int), v15 = .int .i64 x15_1 ∧ Aside0 (impl_values.l0 kq a1 a2 x7_1 l0 (l0.length : Int) x15_1 = some r) ∧ Aside0 (kq ≤ k) ∧ Aside0 (Kd.R (Kd.int .i64) 3 w' w.heap.size (fun _ => True) v160 x7_1) ∧ Aside0 (Below w.heap.size w w'))
   case atStart => exact ⟨(y159), (0), ye, H', ⟨Nat.le_refl _⟩, ⟨yR HO161.out⟩, ⟨ya⟩⟩
   case round =>
    clear H'
    try clear p2
    try clear c4
    try clear c4b0
    try clear c4b1
    try clear c5
    try clear c5b0
    try clear c5b1
    try clear c7
    obtain ⟨x7_1, x15_1, rfl, HA, HK1, HO_7, HB⟩ := hrel
    cases gk with
    | zero => exact absurd HA.out (by simp [impl_values.l0])
    | succ k1 =>
     have H := HA.out
     clear HA
     simp only [impl_values.l0] at H
     by_cases c8 : x15_1 < (l0.length : Int)
     ·rw [if_pos c8] at H
      have c8b0 : decide (x15_1 < (l0.length : Int)) = true := decide_eq_true c8
      clear c8
      by_cases c9 : 0 ≤ x15_1
      ·rw [if_pos c9] at H
       have c9b0 : decide (0 ≤ x15_1) = true := decide_eq_true c9
       clear c9
       by_cases c10 : x15_1 < (l0.length : Int)
       ·rw [if_pos c10] at H
        have c10b0 : decide (x15_1 < (l0.length : Int)) = true := decide_eq_true c10
        clear c10
        by_cases c11 : ((rd_T47 l0 x15_1).f0).toList = ([105, 110] : List UInt8)
        ·rw [if_pos c11] at H
         have c11b0 : (((rd_T47 l0 x15_1).f0).toList == ([105, 110] : List UInt8)) = true := beq_iff_eq.mpr c11
         have c11b1 : (((rd_T47 l0 x15_1).f0).toList != ([105, 110] : List UInt8)) = false := bne_eq_false_iff_eq.mpr c11
         clear c11
         obtain ⟨y164, hy164⟩ : ∃ y_ : List Int, y_ = (([a1, a2] : List Int)) := ⟨_, rfl⟩
         replace H : (if 0 ≤ ((rd_T47 l0 x15_1).f3) then (if ((rd_T47 l0 x15_1).f3) < (y164.length : Int) then (if x15_1 < (x7_1.length : Int) then (impl_values.l0 k1 a1 a2 (x7_1.set (x15_1 : Int).toNat (rd y164 ((rd_T47 l0 x15_1).f3))) l0 (l0.length : Int) (wrap64 (x15_1 + 1))) else (none)) else (none)) else (none)) = some r := by have hy_ := hy164; exact xH
         have Ny164 := zK hy164
         clear hy164
         by_cases c12 : 0 ≤ ((rd_T47 l0 x15_1).f3)
         ·rw [if_pos c12] at H
          have c12b0 : decide (0 ≤ ((rd_T47 l0 x15_1).f3)) = true := decide_eq_true c12
          clear c12
          by_cases c13 : ((rd_T47 l0 x15_1).f3) < (y164.length : Int)
          ·rw [if_pos c13] at H
           have c13b0 : decide (((rd_T47 l0 x15_1).f3) < (y164.length : Int)) = true := decide_eq_true c13
           clear c13
           by_cases c14 : x15_1 < (x7_1.length : Int)
           ·rw [if_pos c14] at H
            have c14b0 : decide (x15_1 < (x7_1.length : Int)) = true := decide_eq_true c14
            clear c14
            obtain ⟨y168, hy168⟩ : ∃ y_ : List Int, y_ = (x7_1.set (x15_1 : Int).toNat (rd y164 ((rd_T47 l0 x15_1).f3))) := ⟨_, rfl⟩
            replace H : (impl_values.l0 k1 a1 a2 y168 l0 (l0.length : Int) (wrap64 (x15_1 + 1))) = some r := by have hy_ := hy168; exact xH
            have Ny168 := zK hy168
            clear hy168
            have H' := zK H
            clear H
            have p162 : 0 ≤ (x15_1 : Int) := zo
            have q162 : x15_1 < (l0.length : Int) := zo
            obtain ⟨ad162, e162, hx162_0, hx162_1, hx162_2, hx162_3⟩ := at_T47 HR0.out x15_1 p162 q162
            cases e162
            replace hx162_0 := zt HB.out hx162_0
            replace hx162_1 := zt HB.out hx162_1
            replace hx162_2 := zt HB.out hx162_2
            replace hx162_3 := zt HB.out hx162_3
            replace p162 := eq_true p162
            replace q162 := eq_true q162
            go_wp2_with (first | ((with_reducible refine gate_dst (N := 9) rfl ?_); refine box_event ?hg (N := 9) ?hd (cs := #[.string (⟨#[]⟩ : ByteArray), .int .i64 0, .int .i64 0, .int .i64 0]) (t := 47) ?hr ?_; (case hd | hg => rfl); (case hr => exact xxa); intro gb163 hg w16 hbox hb; have n0_ := zK (Kd.R_below (yR HO_7.out) hb); have n1_ := zK (zL ya hb); have n2_ := zK (hbox); have n3_ := zK ((by rw [hg]; exact (zN ya) : w.heap.size ≤ gb163)); have n4_ := n3_; clear HO_7; clear HB; have HO_7 := n0_; have HB := n1_; have BK163 := n2_; have GW163 := n3_; have GE163 := n4_; clear n0_ n1_ n2_ n3_ n4_; clear hb hbox hg; have hcz17_0 : w16.cell? ⟨gb163, 0, none⟩ = some (.string (⟨#[]⟩ : ByteArray)) := (zI BK163.out 0).trans rfl; have hcz17_1 : w16.cell? ⟨gb163, 1, none⟩ = some (.int .i64 0) := (zI BK163.out 1).trans rfl; have hcz17_2 : w16.cell? ⟨gb163, 2, none⟩ = some (.int .i64 0) := (zI BK163.out 2).trans rfl; have hcz17_3 : w16.cell? ⟨gb163, 3, none⟩ = some (.int .i64 0) := (zI BK163.out 3).trans rfl; have hfz17_0 := zH BK163.out 0; have hfz17_1 := zH BK163.out 1; have hfz17_2 := zH BK163.out 2; have hfz17_3 := zH BK163.out 3) | ((with_reducible refine gate_dst (N := 44) rfl ?_); refine Kd.R_lit (Kd.int .i64) _ 3 ?hg (N := 44) ?hd (xs := ([a1, a2] : List Int)) (inner := [.int .i64 a1, .int .i64 a2]) (ok := fun _ => True) (okp := fun _ => True) ?hr ?hp (fun _ hk => hk) trivial (Below.refl _ _) (Nat.le_refl _) ye1 ?_; (case hd | hg => rfl); (case hr => exact xxa); (case hp => exact (Reps.one (show Kd.M (Kd.int .i64) _ _ _ a1 [.int .i64 a1] from rfl) (Reps.one (show Kd.M (Kd.int .i64) _ _ _ a2 [.int .i64 a2] from rfl) (Reps.none _ _)))); intro v165 w18 ho19 hb hg_ hnew_; clear hg_ hnew_; (first | rw [← Ny164.out] at ho19 | (simp only [Int.reduceToNat] at ho19; rw [← Ny164.out] at ho19)); have n0_ := zK (Kd.R_elder' (by (with_reducible repeat (first | apply Kd.R_alloc | apply Kd.R_drewN | apply Kd.R_drew)); exact (Kd.R_mono (Kd.R_far (p := ⟨gb163, 3, none⟩) (Kd.R_far (p := ⟨gb163, 2, none⟩) (Kd.R_far (p := ⟨gb163, 1, none⟩) (Kd.R_far (p := ⟨gb163, 0, none⟩) (Kd.R_types HO_7.out BK163.out yp1) (fun _ hk => hk.2) (.string ((rd_T47 l0 x15_1).f0))) (fun _ hk => hk.2) (.int .i64 ((rd_T47 l0 x15_1).f1))) (fun _ hk => hk.2) (.int .i64 ((rd_T47 l0 x15_1).f2))) (fun _ hk => hk.2) (.int .i64 ((rd_T47 l0 x15_1).f3))) (fun _ h_ => h_.1))) (Kd.R_base ho19) hb); have n1_ := zK (Kd.R_lower (Kd.R_new' ho19 (Kd.R_lt (by (with_reducible repeat (first | apply Kd.R_alloc | apply Kd.R_drewN | apply Kd.R_drew)); exact (Kd.R_mono (Kd.R_far (p := ⟨gb163, 3, none⟩) (Kd.R_far (p := ⟨gb163, 2, none⟩) (Kd.R_far (p := ⟨gb163, 1, none⟩) (Kd.R_far (p := ⟨gb163, 0, none⟩) (Kd.R_types HO_7.out BK163.out yp1) (fun _ hk => hk.2) (.string ((rd_T47 l0 x15_1).f0))) (fun _ hk => hk.2) (.int .i64 ((rd_T47 l0 x15_1).f1))) (fun _ hk => hk.2) (.int .i64 ((rd_T47 l0 x15_1).f2))) (fun _ hk => hk.2) (.int .i64 ((rd_T47 l0 x15_1).f3))) (fun _ h_ => h_.1))))) (zN ya2)); have n2_ := zK (zM (g := gb163) (o := .cells #[.string ((rd_T47 l0 x15_1).f0), .int .i64 ((rd_T47 l0 x15_1).f1), .int .i64 ((rd_T47 l0 x15_1).f2), .int .i64 ((rd_T47 l0 x15_1).f3)] 47 (0, 0)) (by (with_reducible repeat (first | refine zE ?_ _ | refine zF ?_ | refine zG ?_ _)); refine blk_put (cs := #[.string ((rd_T47 l0 x15_1).f0), .int .i64 ((rd_T47 l0 x15_1).f1), .int .i64 ((rd_T47 l0 x15_1).f2), .int .i64 0]) ?_ 3 _ rfl; (with_reducible repeat (first | refine zE ?_ _ | refine zF ?_ | refine zG ?_ _)); refine blk_put (cs := #[.string ((rd_T47 l0 x15_1).f0), .int .i64 ((rd_T47 l0 x15_1).f1), .int .i64 0, .int .i64 0]) ?_ 2 _ rfl; (with_reducible repeat (first | refine zE ?_ _ | refine zF ?_ | refine zG ?_ _)); refine blk_put (cs := #[.string ((rd_T47 l0 x15_1).f0), .int .i64 0, .int .i64 0, .int .i64 0]) ?_ 1 _ rfl; (with_reducible repeat (first | refine zE ?_ _ | refine zF ?_ | refine zG ?_ _)); refine blk_put (cs := #[.string (⟨#[]⟩ : ByteArray), .int .i64 0, .int .i64 0, .int .i64 0]) ?_ 0 _ rfl; (with_reducible repeat (first | refine zE ?_ _ | refine zF ?_ | refine zG ?_ _)); exact BK163.out) hb); have n3_ := zK (zL ya2 hb); clear HO_7; clear BK163; clear HB; have HO_7 := n0_; have HO166 := n1_; have BK163 := n2_; have HB := n3_; clear n0_ n1_ n2_ n3_; clear hb ho19; have hcz20_0 : w18.cell? ⟨gb163, 0, none⟩ = some (.string ((rd_T47 l0 x15_1).f0)) := (zI BK163.out 0).trans rfl; have hcz20_1 : w18.cell? ⟨gb163, 1, none⟩ = some (.int .i64 ((rd_T47 l0 x15_1).f1)) := (zI BK163.out 1).trans rfl; have hcz20_2 : w18.cell? ⟨gb163, 2, none⟩ = some (.int .i64 ((rd_T47 l0 x15_1).f2)) := (zI BK163.out 2).trans rfl; have hcz20_3 : w18.cell? ⟨gb163, 3, none⟩ = some (.int .i64 ((rd_T47 l0 x15_1).f3)) := (zI BK163.out 3).trans rfl; have hfz20_0 := zH BK163.out 0; have hfz20_1 := zH BK163.out 1; have hfz20_2 := zH BK163.out 2; have hfz20_3 := zH BK163.out 3; obtain ⟨Ao21, co21, eo21⟩ := Kd.R_slice HO166.out; subst eo21; have p167 : 0 ≤ (((rd_T47 l0 x15_1).f3) : Int) := zo; have q167 : ((rd_T47 l0 x15_1).f3) < (y164.length : Int) := zo; obtain ⟨ad167, e167, hx167_0⟩ := Kd.at_int (Kd.R_reads' HO166.out).2.2 ((rd_T47 l0 x15_1).f3) p167 q167; cases e167; replace p167 := eq_true p167; replace q167 := eq_true q167; have p15 : 0 ≤ (x15_1 : Int) := zo; have q15 : (x15_1 : Int) < ((x7_1.length : Int) : Int) := zo; obtain ⟨go15, co15, eo15, gb15, gl15, cl15, HG15⟩ := Kd.R_form HO_7.out (by omega); (first | cases eo15 | (injection eo15 with ea_ en_ ec_; (first | subst ea_ | (injection ea_ with ea_; subst ea_)); subst ec_; clear en_)); have GB15 := zK gb15; have GG15 := zK HG15; clear gb15 gl15 HG15; obtain ⟨hx15_0, hf15_0⟩ := Kd.R_celln 0 HO_7.out (x15_1 : Int) p15 q15; replace p15 := eq_true p15; replace q15 := eq_true q15; have n_ := zK (Kd.R_mono (ok' := (fun k_ => some k_ ≠ (.slice (some ad167) y164.length co21 : Value).ownBlock)) HO_7.out (fun k_ hk => hk.2)); clear HO_7; have HO_7 := n_; clear n_; obtain ⟨hy22_, hz22_⟩ := Kd.R_celln 0 HO_7.out (x15_1 : Int) (zo) (zo); have HP22 := Kd.R_putg HO_7.out (x15_1 : Int) (rd y164 ((rd_T47 l0 x15_1).f3))) | ((with_reducible refine gate_store (t := 3) (p := 49) rfl ?_); refine store_event (t := 3) (p := 49) (v := ?vo_w23) (w1 := (w18.setCell ⟨go15, (x15_1 : Int).toNat, none⟩ (.int .i64 (rd y164 ((rd_T47 l0 x15_1).f3))))) ?hg ?ho ?hn ?hr ?_; (case ho => rfl); (case hg => rfl); (case hn => rfl); (case hr => exact xxa); intro w23 hw; have hg : w18.grownBy w23 (some go15) := (by rw [hw]; exact HP22.2); have hp_ : Kd.R (Kd.int .i64) 3 w23 w.heap.size (fun k_ => some k_ ≠ (.slice (some ad167) y164.length co21 : Value).ownBlock) (.slice (some ⟨go15, 0, none⟩) x7_1.length co15) y168 := (by rw [hw, Ny168.out]; exact HP22.1); clear HP22; have n0_ := zK (hp_); have n1_ := zK (blk_grown (g := gb163) (o := .cells #[.string ((rd_T47 l0 x15_1).f0), .int .i64 ((rd_T47 l0 x15_1).f1), .int .i64 ((rd_T47 l0 x15_1).f2), .int .i64 ((rd_T47 l0 x15_1).f3)] 47 (0, 0)) (yS BK163.out) hg (Kd.R_ne HO_7.out BK163.out yp1)); have n2_ := zK (Kd.R_after (v := (.slice (some ⟨go15, 0, none⟩) x7_1.length co15)) (v1 := (.slice (some ⟨go15, 0, none⟩) x7_1.length co15)) (ok := (fun _ => True)) (yR HO166.out) hg (.inl rfl)); have n3_ := zK ((by rw [hw]; exact zD (HB.out) GB15.out : Below w.heap.size w w23)); clear HO_7; clear BK163; clear HO166; clear HB; have HO_7 := n0_; have BK163 := n1_; have HO166 := n2_; have HB := n3_; clear n0_ n1_ n2_ n3_; clear hg hw hp_))
            go_roundg k1
            case measure => have := HK1.out; omega
            case rel => exact ⟨(y168), (wrap64 (x15_1 + 1)), ye, H', ⟨yb2⟩, ⟨by (with_reducible repeat (first | apply Kd.R_alloc | apply Kd.R_drewN | apply Kd.R_drew)); exact Kd.R_mono HO_7.out (fun _ hk => trivial)⟩, ⟨ya2⟩⟩
           ·rw [if_neg c14] at H
            exact absurd H ye1
          ·rw [if_neg c13] at H
           exact absurd H ye1
         ·rw [if_neg c12] at H
          exact absurd H ye1
        ·rw [if_neg c11] at H
         have c11b0 : (((rd_T47 l0 x15_1).f0).toList == ([105, 110] : List UInt8)) = false := beq_eq_false_iff_ne.mpr c11
         have c11b1 : (((rd_T47 l0 x15_1).f0).toList != ([105, 110] : List UInt8)) = true := bne_iff_ne.mpr c11
         by_cases c24 : ((rd_T47 l0 x15_1).f0).toList = ([99, 111, 110, 115, 116] : List UInt8)
         ·rw [if_pos c24] at H
          have c24b0 : (((rd_T47 l0 x15_1).f0).toList == ([99, 111, 110, 115, 116] : List UInt8)) = true := beq_iff_eq.mpr c24
          have c24b1 : (((rd_T47 l0 x15_1).f0).toList != ([99, 111, 110, 115, 116] : List UInt8)) = false := bne_eq_false_iff_eq.mpr c24
          clear c24
          by_cases c25 : x15_1 < (x7_1.length : Int)
          ·rw [if_pos c25] at H
           have c25b0 : decide (x15_1 < (x7_1.length : Int)) = true := decide_eq_true c25
           clear c25
           obtain ⟨y169, hy169⟩ : ∃ y_ : List Int, y_ = (x7_1.set (x15_1 : Int).toNat ((rd_T47 l0 x15_1).f3)) := ⟨_, rfl⟩
           replace H : (impl_values.l0 k1 a1 a2 y169 l0 (l0.length : Int) (wrap64 (x15_1 + 1))) = some r := by have hy_ := hy169; exact xH
           have Ny169 := zK hy169
           clear hy169
           have H' := zK H
           clear H
           have p162 : 0 ≤ (x15_1 : Int) := zo
           have q162 : x15_1 < (l0.length : Int) := zo
           obtain ⟨ad162, e162, hx162_0, hx162_1, hx162_2, hx162_3⟩ := at_T47 HR0.out x15_1 p162 q162
           cases e162
           replace hx162_0 := zt HB.out hx162_0
           replace hx162_1 := zt HB.out hx162_1
           replace hx162_2 := zt HB.out hx162_2
           replace hx162_3 := zt HB.out hx162_3
           replace p162 := eq_true p162
           replace q162 := eq_true q162
           go_wp2_with (first | ((with_reducible refine gate_dst (N := 9) rfl ?_); refine box_event ?hg (N := 9) ?hd (cs := #[.string (⟨#[]⟩ : ByteArray), .int .i64 0, .int .i64 0, .int .i64 0]) (t := 47) ?hr ?_; (case hd | hg => rfl); (case hr => exact xxa); intro gb163 hg w27 hbox hb; have n0_ := zK (Kd.R_below (yR HO_7.out) hb); have n1_ := zK (zL ya hb); have n2_ := zK (hbox); have n3_ := zK ((by rw [hg]; exact (zN ya) : w.heap.size ≤ gb163)); have n4_ := n3_; clear HO_7; clear HB; have HO_7 := n0_; have HB := n1_; have BK163 := n2_; have GW163 := n3_; have GE163 := n4_; clear n0_ n1_ n2_ n3_ n4_; clear hb hbox hg; have hcz28_0 : w27.cell? ⟨gb163, 0, none⟩ = some (.string (⟨#[]⟩ : ByteArray)) := (zI BK163.out 0).trans rfl; have hcz28_1 : w27.cell? ⟨gb163, 1, none⟩ = some (.int .i64 0) := (zI BK163.out 1).trans rfl; have hcz28_2 : w27.cell? ⟨gb163, 2, none⟩ = some (.int .i64 0) := (zI BK163.out 2).trans rfl; have hcz28_3 : w27.cell? ⟨gb163, 3, none⟩ = some (.int .i64 0) := (zI BK163.out 3).trans rfl; have hfz28_0 := zH BK163.out 0; have hfz28_1 := zH BK163.out 1; have hfz28_2 := zH BK163.out 2; have hfz28_3 := zH BK163.out 3) | ((with_reducible refine gate_store (t := 47) (p := 9) rfl ?_); refine store_event (t := 47) (p := 9) (v := ?vo_w29) (w1 := ((((w27.setCell ⟨gb163, 0, none⟩ (.string ((rd_T47 l0 x15_1).f0))).setCell ⟨gb163, 1, none⟩ (.int .i64 ((rd_T47 l0 x15_1).f1))).setCell ⟨gb163, 2, none⟩ (.int .i64 ((rd_T47 l0 x15_1).f2))).setCell ⟨gb163, 3, none⟩ (.int .i64 ((rd_T47 l0 x15_1).f3)))) ?hg ?ho ?hn ?hr ?_; (case ho => rfl); (case hg => rfl); (case hn => rfl); (case hr => exact xxa); intro w29 hw; have n0_ : Aside0 (Kd.R (Kd.int .i64) 3 w29 w.heap.size (fun _ => True) v160 x7_1) := ⟨(by rw [hw]; exact (by (with_reducible repeat (first | apply Kd.R_alloc | apply Kd.R_drewN | apply Kd.R_drew)); exact Kd.R_mono (Kd.R_far (p := ⟨gb163, 3, none⟩) (Kd.R_far (p := ⟨gb163, 2, none⟩) (Kd.R_far (p := ⟨gb163, 1, none⟩) (Kd.R_far (p := ⟨gb163, 0, none⟩) (Kd.R_types HO_7.out BK163.out yp1) (fun _ hk => hk.2) (.string ((rd_T47 l0 x15_1).f0))) (fun _ hk => hk.2) (.int .i64 ((rd_T47 l0 x15_1).f1))) (fun _ hk => hk.2) (.int .i64 ((rd_T47 l0 x15_1).f2))) (fun _ hk => hk.2) (.int .i64 ((rd_T47 l0 x15_1).f3))) (fun _ hk => trivial)))⟩; have n1_ : Aside0 (w29.heap[gb163]? = some (.cells #[.string ((rd_T47 l0 x15_1).f0), .int .i64 ((rd_T47 l0 x15_1).f1), .int .i64 ((rd_T47 l0 x15_1).f2), .int .i64 ((rd_T47 l0 x15_1).f3)] 47 (0, 0))) := ⟨(by rw [hw]; exact (by (with_reducible repeat (first | refine zE ?_ _ | refine zF ?_ | refine zG ?_ _)); refine blk_put (cs := #[.string ((rd_T47 l0 x15_1).f0), .int .i64 ((rd_T47 l0 x15_1).f1), .int .i64 ((rd_T47 l0 x15_1).f2), .int .i64 0]) ?_ 3 _ rfl; (with_reducible repeat (first | refine zE ?_ _ | refine zF ?_ | refine zG ?_ _)); refine blk_put (cs := #[.string ((rd_T47 l0 x15_1).f0), .int .i64 ((rd_T47 l0 x15_1).f1), .int .i64 0, .int .i64 0]) ?_ 2 _ rfl; (with_reducible repeat (first | refine zE ?_ _ | refine zF ?_ | refine zG ?_ _)); refine blk_put (cs := #[.string ((rd_T47 l0 x15_1).f0), .int .i64 0, .int .i64 0, .int .i64 0]) ?_ 1 _ rfl; (with_reducible repeat (first | refine zE ?_ _ | refine zF ?_ | refine zG ?_ _)); refine blk_put (cs := #[.string (⟨#[]⟩ : ByteArray), .int .i64 0, .int .i64 0, .int .i64 0]) ?_ 0 _ rfl; (with_reducible repeat (first | refine zE ?_ _ | refine zF ?_ | refine zG ?_ _)); exact BK163.out))⟩; have n2_ : Aside0 (Below w.heap.size w w29) := ⟨(by rw [hw]; exact ya2)⟩; clear hw; clear HO_7; clear BK163; clear HB; have HO_7 := n0_; have BK163 := n1_; have HB := n2_; clear n0_ n1_ n2_; have hcz30_0 : w29.cell? ⟨gb163, 0, none⟩ = some (.string ((rd_T47 l0 x15_1).f0)) := (zI BK163.out 0).trans rfl; have hcz30_1 : w29.cell? ⟨gb163, 1, none⟩ = some (.int .i64 ((rd_T47 l0 x15_1).f1)) := (zI BK163.out 1).trans rfl; have hcz30_2 : w29.cell? ⟨gb163, 2, none⟩ = some (.int .i64 ((rd_T47 l0 x15_1).f2)) := (zI BK163.out 2).trans rfl; have hcz30_3 : w29.cell? ⟨gb163, 3, none⟩ = some (.int .i64 ((rd_T47 l0 x15_1).f3)) := (zI BK163.out 3).trans rfl; have hfz30_0 := zH BK163.out 0; have hfz30_1 := zH BK163.out 1; have hfz30_2 := zH BK163.out 2; have hfz30_3 := zH BK163.out 3; have p26 : 0 ≤ (x15_1 : Int) := zo; have q26 : (x15_1 : Int) < ((x7_1.length : Int) : Int) := zo; obtain ⟨go26, co26, eo26, gb26, gl26, cl26, HG26⟩ := Kd.R_form HO_7.out (by omega); (first | cases eo26 | (injection eo26 with ea_ en_ ec_; (first | subst ea_ | (injection ea_ with ea_; subst ea_)); subst ec_; clear en_)); have GB26 := zK gb26; have GG26 := zK HG26; clear gb26 gl26 HG26; obtain ⟨hx26_0, hf26_0⟩ := Kd.R_celln 0 HO_7.out (x15_1 : Int) p26 q26; replace p26 := eq_true p26; replace q26 := eq_true q26; obtain ⟨hy31_, hz31_⟩ := Kd.R_celln 0 HO_7.out (x15_1 : Int) (zo) (zo); have HP31 := Kd.R_putg HO_7.out (x15_1 : Int) ((rd_T47 l0 x15_1).f3)) | ((with_reducible refine gate_store (t := 3) (p := 56) rfl ?_); refine store_event (t := 3) (p := 56) (v := ?vo_w32) (w1 := (w29.setCell ⟨go26, (x15_1 : Int).toNat, none⟩ (.int .i64 ((rd_T47 l0 x15_1).f3)))) ?hg ?ho ?hn ?hr ?_; (case ho => rfl); (case hg => rfl); (case hn => rfl); (case hr => exact xxa); intro w32 hw; have hg : w29.grownBy w32 (some go26) := (by rw [hw]; exact HP31.2); have hp_ : Kd.R (Kd.int .i64) 3 w32 w.heap.size (fun _ => True) (.slice (some ⟨go26, 0, none⟩) x7_1.length co26) y169 := (by rw [hw, Ny169.out]; exact HP31.1); clear HP31; have n0_ := zK (hp_); have n1_ := zK (blk_grown (g := gb163) (o := .cells #[.string ((rd_T47 l0 x15_1).f0), .int .i64 ((rd_T47 l0 x15_1).f1), .int .i64 ((rd_T47 l0 x15_1).f2), .int .i64 ((rd_T47 l0 x15_1).f3)] 47 (0, 0)) (yS BK163.out) hg (Kd.R_ne HO_7.out BK163.out yp1)); have n2_ := zK ((by rw [hw]; exact zD (HB.out) GB26.out : Below w.heap.size w w32)); clear HO_7; clear BK163; clear HB; have HO_7 := n0_; have BK163 := n1_; have HB := n2_; clear n0_ n1_ n2_; clear hg hw hp_))
           go_roundg k1
           case measure => have := HK1.out; omega
           case rel => exact ⟨(y169), (wrap64 (x15_1 + 1)), ye, H', ⟨yb2⟩, ⟨yR HO_7.out⟩, ⟨ya2⟩⟩
          ·rw [if_neg c25] at H
           exact absurd H ye1
         ·rw [if_neg c24] at H
          have c24b0 : (((rd_T47 l0 x15_1).f0).toList == ([99, 111, 110, 115, 116] : List UInt8)) = false := beq_eq_false_iff_ne.mpr c24
          have c24b1 : (((rd_T47 l0 x15_1).f0).toList != ([99, 111, 110, 115, 116] : List UInt8)) = true := bne_iff_ne.mpr c24
          by_cases c33 : 0 ≤ ((rd_T47 l0 x15_1).f1)
          ·rw [if_pos c33] at H
           have c33b0 : decide (0 ≤ ((rd_T47 l0 x15_1).f1)) = true := decide_eq_true c33
           clear c33
           by_cases c34 : ((rd_T47 l0 x15_1).f1) < (x7_1.length : Int)
           ·rw [if_pos c34] at H
            have c34b0 : decide (((rd_T47 l0 x15_1).f1) < (x7_1.length : Int)) = true := decide_eq_true c34
            clear c34
            by_cases c35 : 0 ≤ ((rd_T47 l0 x15_1).f2)
            ·rw [if_pos c35] at H
             have c35b0 : decide (0 ≤ ((rd_T47 l0 x15_1).f2)) = true := decide_eq_true c35
             clear c35
             by_cases c36 : ((rd_T47 l0 x15_1).f2) < (x7_1.length : Int)
             ·rw [if_pos c36] at H
              have c36b0 : decide (((rd_T47 l0 x15_1).f2) < (x7_1.length : Int)) = true := decide_eq_true c36
              clear c36
              replace H := Option.bind_eq_some_iff.mp H
              obtain ⟨t172, A370, H⟩ := H
              replace H : (if x15_1 < (x7_1.length : Int) then (impl_values.l0 k1 a1 a2 (x7_1.set (x15_1 : Int).toNat t172) l0 (l0.length : Int) (wrap64 (x15_1 + 1))) else (none)) = some r := H
              have A37 := zK A370
              clear A370
              by_cases c38 : x15_1 < (x7_1.length : Int)
              ·rw [if_pos c38] at H
               have c38b0 : decide (x15_1 < (x7_1.length : Int)) = true := decide_eq_true c38
               clear c38
               obtain ⟨y173, hy173⟩ : ∃ y_ : List Int, y_ = (x7_1.set (x15_1 : Int).toNat t172) := ⟨_, rfl⟩
               replace H : (impl_values.l0 k1 a1 a2 y173 l0 (l0.length : Int) (wrap64 (x15_1 + 1))) = some r := by have hy_ := hy173; exact xH
               have Ny173 := zK hy173
               clear hy173
               have H' := zK H
               clear H
               have p162 : 0 ≤ (x15_1 : Int) := zo
               have q162 : x15_1 < (l0.length : Int) := zo
               obtain ⟨ad162, e162, hx162_0, hx162_1, hx162_2, hx162_3⟩ := at_T47 HR0.out x15_1 p162 q162
               cases e162
               replace hx162_0 := zt HB.out hx162_0
               replace hx162_1 := zt HB.out hx162_1
               replace hx162_2 := zt HB.out hx162_2
               replace hx162_3 := zt HB.out hx162_3
               replace p162 := eq_true p162
               replace q162 := eq_true q162
               try go_wp2_with (first | ((with_reducible refine gate_dst (N := 9) rfl ?_); refine box_event ?hg (N := 9) ?hd (cs := #[.string (⟨#[]⟩ : ByteArray), .int .i64 0, .int .i64 0, .int .i64 0]) (t := 47) ?hr ?_; (case hd | hg => rfl); (case hr => exact xxa); intro gb163 hg w40 hbox hb; have n0_ := zK (Kd.R_below (yR HO_7.out) hb); have n1_ := zK (zL ya hb); have n2_ := zK (hbox); have n3_ := zK ((by rw [hg]; exact (zN ya) : w.heap.size ≤ gb163)); have n4_ := n3_; clear HO_7; clear HB; have HO_7 := n0_; have HB := n1_; have BK163 := n2_; have GW163 := n3_; have GE163 := n4_; clear n0_ n1_ n2_ n3_ n4_; clear hb hbox hg; have hcz41_0 : w40.cell? ⟨gb163, 0, none⟩ = some (.string (⟨#[]⟩ : ByteArray)) := (zI BK163.out 0).trans rfl; have hcz41_1 : w40.cell? ⟨gb163, 1, none⟩ = some (.int .i64 0) := (zI BK163.out 1).trans rfl; have hcz41_2 : w40.cell? ⟨gb163, 2, none⟩ = some (.int .i64 0) := (zI BK163.out 2).trans rfl; have hcz41_3 : w40.cell? ⟨gb163, 3, none⟩ = some (.int .i64 0) := (zI BK163.out 3).trans rfl; have hfz41_0 := zH BK163.out 0; have hfz41_1 := zH BK163.out 1; have hfz41_2 := zH BK163.out 2; have hfz41_3 := zH BK163.out 3))
               have n0_ : Aside0 (Kd.R (Kd.int .i64) 3 ((((w40.setCell ⟨gb163, 0, none⟩ (.string ((rd_T47 l0 x15_1).f0))).setCell ⟨gb163, 1, none⟩ (.int .i64 ((rd_T47 l0 x15_1).f1))).setCell ⟨gb163, 2, none⟩ (.int .i64 ((rd_T47 l0 x15_1).f2))).setCell ⟨gb163, 3, none⟩ (.int .i64 ((rd_T47 l0 x15_1).f3))) w.heap.size (fun _ => True) v160 x7_1) := ⟨by (with_reducible repeat (first | apply Kd.R_alloc | apply Kd.R_drewN | apply Kd.R_drew)); exact Kd.R_mono (Kd.R_far (p := ⟨gb163, 3, none⟩) (Kd.R_far (p := ⟨gb163, 2, none⟩) (Kd.R_far (p := ⟨gb163, 1, none⟩) (Kd.R_far (p := ⟨gb163, 0, none⟩) (Kd.R_types HO_7.out BK163.out yp1) (fun _ hk => hk.2) (.string ((rd_T47 l0 x15_1).f0))) (fun _ hk => hk.2) (.int .i64 ((rd_T47 l0 x15_1).f1))) (fun _ hk => hk.2) (.int .i64 ((rd_T47 l0 x15_1).f2))) (fun _ hk => hk.2) (.int .i64 ((rd_T47 l0 x15_1).f3))) (fun _ hk => trivial)⟩
               have n1_ : Aside0 (((((w40.setCell ⟨gb163, 0, none⟩ (.string ((rd_T47 l0 x15_1).f0))).setCell ⟨gb163, 1, none⟩ (.int .i64 ((rd_T47 l0 x15_1).f1))).setCell ⟨gb163, 2, none⟩ (.int .i64 ((rd_T47 l0 x15_1).f2))).setCell ⟨gb163, 3, none⟩ (.int .i64 ((rd_T47 l0 x15_1).f3))).heap[gb163]? = some (.cells #[.string ((rd_T47 l0 x15_1).f0), .int .i64 ((rd_T47 l0 x15_1).f1), .int .i64 ((rd_T47 l0 x15_1).f2), .int .i64 ((rd_T47 l0 x15_1).f3)] 47 (0, 0))) := ⟨by (with_reducible repeat (first | refine zE ?_ _ | refine zF ?_ | refine zG ?_ _)); refine blk_put (cs := #[.string ((rd_T47 l0 x15_1).f0), .int .i64 ((rd_T47 l0 x15_1).f1), .int .i64 ((rd_T47 l0 x15_1).f2), .int .i64 0]) ?_ 3 _ rfl; (with_reducible repeat (first | refine zE ?_ _ | refine zF ?_ | refine zG ?_ _)); refine blk_put (cs := #[.string ((rd_T47 l0 x15_1).f0), .int .i64 ((rd_T47 l0 x15_1).f1), .int .i64 0, .int .i64 0]) ?_ 2 _ rfl; (with_reducible repeat (first | refine zE ?_ _ | refine zF ?_ | refine zG ?_ _)); refine blk_put (cs := #[.string ((rd_T47 l0 x15_1).f0), .int .i64 0, .int .i64 0, .int .i64 0]) ?_ 1 _ rfl; (with_reducible repeat (first | refine zE ?_ _ | refine zF ?_ | refine zG ?_ _)); refine blk_put (cs := #[.string (⟨#[]⟩ : ByteArray), .int .i64 0, .int .i64 0, .int .i64 0]) ?_ 0 _ rfl; (with_reducible repeat (first | refine zE ?_ _ | refine zF ?_ | refine zG ?_ _)); exact BK163.out⟩
               have n2_ : Aside0 (Below w.heap.size w ((((w40.setCell ⟨gb163, 0, none⟩ (.string ((rd_T47 l0 x15_1).f0))).setCell ⟨gb163, 1, none⟩ (.int .i64 ((rd_T47 l0 x15_1).f1))).setCell ⟨gb163, 2, none⟩ (.int .i64 ((rd_T47 l0 x15_1).f2))).setCell ⟨gb163, 3, none⟩ (.int .i64 ((rd_T47 l0 x15_1).f3)))) := ⟨ya2⟩
               (try clear HO_7)
               (try clear BK163)
               (try clear HB)
               generalize ((((w40.setCell ⟨gb163, 0, none⟩ (.string ((rd_T47 l0 x15_1).f0))).setCell ⟨gb163, 1, none⟩ (.int .i64 ((rd_T47 l0 x15_1).f1))).setCell ⟨gb163, 2, none⟩ (.int .i64 ((rd_T47 l0 x15_1).f2))).setCell ⟨gb163, 3, none⟩ (.int .i64 ((rd_T47 l0 x15_1).f3))) = w42 at n0_ n1_ n2_ ⊢
               have HO_7 := n0_
               have BK163 := n1_
               have HB := n2_
               clear n0_ n1_ n2_
               have n0_ := zK (Kd.R_drew HO_7.out)
               have n1_ := zK (zF BK163.out)
               have n2_ := zK (zC HB.out)
               clear HO_7
               clear BK163
               clear HB
               have HO_7 := n0_
               have BK163 := n1_
               have HB := n2_
               clear n0_ n1_ n2_
               obtain ⟨Ao44, co44, eo44⟩ := Kd.R_slice HO_7.out
               (first | subst eo44 | (injection eo44 with f1_ f2_ f3_; have f4_ := f1_.symm; have f5_ := f3_.symm; clear f1_ f2_ f3_; subst f4_; subst f5_))
               have p170 : 0 ≤ (((rd_T47 l0 x15_1).f1) : Int) := zo
               have q170 : ((rd_T47 l0 x15_1).f1) < (x7_1.length : Int) := zo
               obtain ⟨ad170, e170, hx170_0⟩ := Kd.at_int (Kd.R_reads' HO_7.out).2.2 ((rd_T47 l0 x15_1).f1) p170 q170
               cases e170
               replace p170 := eq_true p170
               replace q170 := eq_true q170
               have p171 : 0 ≤ (((rd_T47 l0 x15_1).f2) : Int) := zo
               have q171 : ((rd_T47 l0 x15_1).f2) < (x7_1.length : Int) := zo
               obtain ⟨ad171, e171, hx171_0⟩ := Kd.at_int (Kd.R_reads' HO_7.out).2.2 ((rd_T47 l0 x15_1).f2) p171 q171
               obtain rfl : ad170 = ad171 := (by injection e171)
               replace p171 := eq_true p171
               replace q171 := eq_true q171
               refine start_ (n := 17) (S := fun w' => w'.cell? ⟨gb163, 0, none⟩ = some (.string ((rd_T47 l0 x15_1).f0)) ∧ w'.cell? ⟨gb163, 1, none⟩ = some (.int .i64 ((rd_T47 l0 x15_1).f1)) ∧ w'.cell? ⟨gb163, 2, none⟩ = some (.int .i64 ((rd_T47 l0 x15_1).f2)) ∧ w'.cell? ⟨gb163, 3, none⟩ = some (.int .i64 ((rd_T47 l0 x15_1).f3)) ∧ w'.cell? (ad170.add (((rd_T47 l0 x15_1).f1)).toNat) = some (.int .i64 (rd x7_1 ((rd_T47 l0 x15_1).f1))) ∧ w'.cell? (ad170.add (((rd_T47 l0 x15_1).f2)).toNat) = some (.int .i64 (rd x7_1 ((rd_T47 l0 x15_1).f2)))) (ds := [16]) #[false, false, false, false, false, false, false, false, false, false, false, false, false, false, false, false, false] yi rfl rfl ⟨(zI BK163.out 0).trans rfl, (zI BK163.out 1).trans rfl, (zI BK163.out 2).trans rfl, (zI BK163.out 3).trans rfl, hx170_0, hx171_0⟩ (fun hHeld => ?_); refine with_tabW impl_values.tab6 impl_values.bits6 (fun HT_ HW_ => ?_)
               generalize w42.drew = w43 at HO_7 BK163 HB hx170_0 hx171_0 hHeld ⊢
               refine pure_ (i := 0) (N := some 22) (v := ?_) (a' := ?_) #[true, false, false, false, false, false, false, false, false, false, false, false, false, false, false, false, false] rfl rfl (any_of HT_.out yi) (fun _ _ _ h => h) (Or.inl ⟨by rfl, ?_⟩) ?_ ?_
               rotate_left
               ·intro w'
                go_simp
                with_reducible rfl
               rotate_left
               ·simp only [Act.put, z1, z2, z3, i64_w, i32_w]
                rfl
               refine pure_ (i := 1) (N := some 23) (v := ?_) (a' := ?_) #[true, true, false, false, false, false, false, false, false, false, false, false, false, false, false, false, false] rfl rfl (any_of HT_.out yi) (fun _ _ _ h => h) (Or.inl ⟨by rfl, ?_⟩) ?_ ?_
               rotate_left
               ·intro w'
                go_simp
                with_reducible rfl
               rotate_left
               ·simp only [Act.put, z1, z2, z3, i64_w, i32_w]
                rfl
               refine pure_ (i := 2) (N := some 24) (v := ?_) (a' := ?_) #[true, true, true, false, false, false, false, false, false, false, false, false, false, false, false, false, false] rfl rfl (any_of HT_.out yi) (fun _ _ _ h => h) (Or.inl ⟨by rfl, ?_⟩) ?_ ?_
               rotate_left
               ·intro w'
                go_simp
                with_reducible rfl
               rotate_left
               ·simp only [Act.put, z1, z2, z3, i64_w, i32_w]
                rfl
               refine pure_ (i := 4) (N := some 26) (v := ?_) (a' := ?_) #[true, true, true, false, true, false, false, false, false, false, false, false, false, false, false, false, false] rfl rfl (any_of HT_.out yi) (fun _ _ _ h => h) (Or.inl ⟨by rfl, ?_⟩) ?_ ?_
               rotate_left
               ·intro w'
                go_simp
                with_reducible rfl
               rotate_left
               ·simp only [Act.put, z1, z2, z3, i64_w, i32_w]
                rfl
               refine pure_ (i := 5) (N := some 27) (v := ?_) (a' := ?_) #[true, true, true, false, true, true, false, false, false, false, false, false, false, false, false, false, false] rfl rfl (any_of HT_.out yi) (fun _ _ _ h => h) (Or.inl ⟨by rfl, ?_⟩) ?_ ?_
               rotate_left
               ·intro w'
                go_simp
                with_reducible rfl
               rotate_left
               ·simp only [Act.put, z1, z2, z3, i64_w, i32_w]
                rfl
               refine pure_ (i := 9) (N := some 31) (v := ?_) (a' := ?_) #[true, true, true, false, true, true, false, false, false, true, false, false, false, false, false, false, false] rfl rfl (any_of HT_.out yi) (fun _ _ _ h => h) (Or.inl ⟨by rfl, ?_⟩) ?_ ?_
               rotate_left
               ·intro w'
                go_simp
                with_reducible rfl
               rotate_left
               ·simp only [Act.put, z1, z2, z3, i64_w, i32_w]
                rfl
               refine pure_ (i := 10) (N := some 32) (v := ?_) (a' := ?_) #[true, true, true, false, true, true, false, false, false, true, true, false, false, false, false, false, false] rfl rfl (any_of HT_.out yi) (fun _ _ _ h => h) (Or.inl ⟨by rfl, ?_⟩) ?_ ?_
               rotate_left
               ·intro w'
                go_simp
                with_reducible rfl
               rotate_left
               ·simp only [Act.put, z1, z2, z3, i64_w, i32_w]
                rfl
               refine take_ (i := 3) (N := some 25) (v := ?_) (a' := ?_) #[true, true, true, true, true, true, false, false, false, true, true, false, false, false, false, false, false] rfl rfl (take_ofW HT_.out HW_.out yi) (fun _ _ _ h => h) (Or.inl ⟨by rfl, ?_⟩) hHeld ?_ ?_
               rotate_left
               ·rintro w' ⟨s0, s1, s2, s3, s4, s5⟩
                go_simp
                with_reducible rfl
               rotate_left
               ·simp only [Act.put, z1, z2, z3, i64_w, i32_w]
                rfl
               refine take_ (i := 6) (N := some 28) (v := ?_) (a' := ?_) #[true, true, true, true, true, true, true, false, false, true, true, false, false, false, false, false, false] rfl rfl (take_ofW HT_.out HW_.out yi) (fun _ _ _ h => h) (Or.inl ⟨by rfl, ?_⟩) hHeld ?_ ?_
               rotate_left
               ·rintro w' ⟨s0, s1, s2, s3, s4, s5⟩
                go_simp
                with_reducible rfl
               rotate_left
               ·simp only [Act.put, z1, z2, z3, i64_w, i32_w]
                rfl
               refine pure_ (i := 7) (N := some 29) (v := ?_) (a' := ?_) #[true, true, true, true, true, true, true, true, false, true, true, false, false, false, false, false, false] rfl rfl (any_of HT_.out yi) (fun _ _ _ h => h) (Or.inl ⟨by rfl, ?_⟩) ?_ ?_
               rotate_left
               ·intro w'
                go_simp
                with_reducible rfl
               rotate_left
               ·simp only [Act.put, z1, z2, z3, i64_w, i32_w]
                rfl
               refine take_ (i := 8) (N := some 30) (v := ?_) (a' := ?_) #[true, true, true, true, true, true, true, true, true, true, true, false, false, false, false, false, false] rfl rfl (take_ofW HT_.out HW_.out yi) (fun _ _ _ h => h) (Or.inl ⟨by rfl, ?_⟩) hHeld ?_ ?_
               rotate_left
               ·rintro w' ⟨s0, s1, s2, s3, s4, s5⟩
                go_simp
                with_reducible rfl
               rotate_left
               ·simp only [Act.put, z1, z2, z3, i64_w, i32_w]
                rfl
               refine take_ (i := 11) (N := some 33) (v := ?_) (a' := ?_) #[true, true, true, true, true, true, true, true, true, true, true, true, false, false, false, false, false] rfl rfl (take_ofW HT_.out HW_.out yi) (fun _ _ _ h => h) (Or.inl ⟨by rfl, ?_⟩) hHeld ?_ ?_
               rotate_left
               ·rintro w' ⟨s0, s1, s2, s3, s4, s5⟩
                go_simp
                with_reducible rfl
               rotate_left
               ·simp only [Act.put, z1, z2, z3, i64_w, i32_w]
                rfl
               refine pure_ (i := 12) (N := some 34) (v := ?_) (a' := ?_) #[true, true, true, true, true, true, true, true, true, true, true, true, true, false, false, false, false] rfl rfl (any_of HT_.out yi) (fun _ _ _ h => h) (Or.inl ⟨by rfl, ?_⟩) ?_ ?_
               rotate_left
               ·intro w'
                go_simp
                with_reducible rfl
               rotate_left
               ·simp only [Act.put, z1, z2, z3, i64_w, i32_w]
                rfl
               refine take_ (i := 13) (N := some 35) (v := ?_) (a' := ?_) #[true, true, true, true, true, true, true, true, true, true, true, true, true, true, false, false, false] rfl rfl (take_ofW HT_.out HW_.out yi) (fun _ _ _ h => h) (Or.inl ⟨by rfl, ?_⟩) hHeld ?_ ?_
               rotate_left
               ·rintro w' ⟨s0, s1, s2, s3, s4, s5⟩
                go_simp
                with_reducible rfl
               rotate_left
               ·simp only [Act.put, z1, z2, z3, i64_w, i32_w]
                rfl
               refine one_ (i := 14) (N := some 36) #[true, true, true, true, true, true, true, true, true, true, true, true, true, true, true, false, false] rfl rfl (one_of HT_.out yi) yp1 (fun K hK => ?_)
               refine goes_ Try.func85 yi rfl #[.string ((rd_T47 l0 x15_1).f0), .int .i64 (rd x7_1 ((rd_T47 l0 x15_1).f1)), .int .i64 (rd x7_1 ((rd_T47 l0 x15_1).f2))] (by rfl) rfl rfl yb ?_
               with_reducible refine (impl_apply.calls ((rd_T47 l0 x15_1).f0) (rd x7_1 ((rd_T47 l0 x15_1).f1)) (rd x7_1 ((rd_T47 l0 x15_1).f2)) t172 _ A37.out).mono ?_
               rintro e w' ⟨rfl, ⟨nd, rfl⟩⟩
               refine ⟨_, rfl, ?_⟩
               have p39 : 0 ≤ (x15_1 : Int) := zo
               have q39 : (x15_1 : Int) < ((x7_1.length : Int) : Int) := zo
               obtain ⟨go39, co39, eo39, gb39, gl39, cl39, HG39⟩ := Kd.R_form HO_7.out (by omega)
               (first | cases eo39 | (injection eo39 with ea_ en_ ec_; (first | subst ea_ | (injection ea_ with ea_; subst ea_)); subst ec_; clear en_))
               have GB39 := zK gb39
               have GG39 := zK HG39
               clear gb39 gl39 HG39
               (first | simp only [add_plain] at hx170_0 | skip)
               (first | simp only [add_plain] at hx171_0 | skip)
               obtain ⟨hx39_0, hf39_0⟩ := Kd.R_celln 0 HO_7.out (x15_1 : Int) p39 q39
               replace p39 := eq_true p39
               replace q39 := eq_true q39
               have HP45 := Kd.R_putn HO_7.out (x15_1 : Int) t172
               rw [← Ny173.out] at HP45
               have HQ45 := zK HP45
               clear HP45
               refine hK.out _ _ ⟨(zI BK163.out 0).trans rfl, (zI BK163.out 1).trans rfl, (zI BK163.out 2).trans rfl, (zI BK163.out 3).trans rfl, hHeld.2.2.2.2.1, hHeld.2.2.2.2.2⟩ (fun hHeld => ?_)
               clear hK K
               refine norm_ (a' := ?_) ?_ ?_
               rotate_left
               ·show Act.put _ (some 36) _ = _
                simp only [Act.put, z1, z2, z3, i64_w, i32_w]
                rfl
               refine pure_ (i := 15) (N := some 37) (v := ?_) (a' := ?_) #[true, true, true, true, true, true, true, true, true, true, true, true, true, true, true, true, false] rfl rfl (any_of HT_.out yi) (fun _ _ _ h => h) (Or.inl ⟨by rfl, ?_⟩) ?_ ?_
               rotate_left
               ·intro w'
                go_simp
                with_reducible rfl
               rotate_left
               ·simp only [Act.put, z1, z2, z3, i64_w, i32_w]
                rfl
               refine last_ (i := 16) (N := none) #[true, true, true, true, true, true, true, true, true, true, true, true, true, true, true, true, true] rfl rfl (one_of HT_.out yi) yp1 (fun K hK => ?_)
               refine skip_ (w1 := ?_) (by rfl) rfl ?_ ?_
               rotate_left
               ·go_simp
                rfl
               refine hK.out _ _ ?_
               clear hK K
               refine done_ (done_of HT_.out yi) ?_
               try go_wp2
               go_roundg k1
               case measure => have := HK1.out; omega
               case rel => exact ⟨(y173), (wrap64 (x15_1 + 1)), ye, H', ⟨yb2⟩, ⟨yR HQ45.out⟩, ⟨by repeat (first | (with_reducible first | exact HB.out | apply zA | apply zB | apply zC | refine zD ?_ GB39.out | refine zD ?_ GE163.out) | exact HB.out)⟩⟩
              ·rw [if_neg c38] at H
               exact absurd H ye1
             ·rw [if_neg c36] at H
              exact absurd H ye1
            ·rw [if_neg c35] at H
             exact absurd H ye1
           ·rw [if_neg c34] at H
            exact absurd H ye1
          ·rw [if_neg c33] at H
           exact absurd H ye1
       ·rw [if_neg c10] at H
        exact absurd H ye1
      ·rw [if_neg c9] at H
       exact absurd H ye1
     ·rw [if_neg c8] at H
      have c8b0 : decide (x15_1 < (l0.length : Int)) = false := decide_eq_false c8
      clear c8
      obtain rfl := Option.some.inj H
      go_wp2
      go_ret
      exact ⟨_, yd, yR HO_7.out, ya⟩
  ·rw [if_neg c5] at H
   exact absurd H ye1
 ·rw [if_neg c4] at H
  exact absurd H ye1

/-! ### impl_eval: function 69 -/
def impl_eval.f (k : Nat) (l0 : List (S47)) (a1 : Int) (a2 : Int) : Option (Int) := (impl_values.f k l0 a1 a2).bind fun t174 => (if 0 ≤ (wrap64 ((l0.length : Int) - 1)) then (if (wrap64 ((l0.length : Int) - 1)) < (t174.length : Int) then (some (rd t174 (wrap64 ((l0.length : Int) - 1)))) else (none)) else (none))
set_option maxHeartbeats 8000000 in
set_option maxRecDepth 100000 in
theorem impl_eval.calls (k : Nat) (A0 : Option Addr) (c0 : Nat) (l0 : List (S47)) (a1 : Int) (a2 : Int) (r : Int) (w : World) (hr0 : Kd.C k47 w A0 l0.length l0) (hc0 : l0.length ≤ c0) (h : impl_eval.f k l0 a1 a2 = some r) :
  Calls Try.prog 69 #[.slice A0 l0.length c0, .int .i64 a1, .int .i64 a2] w fun e w' => e = .returned (.int .i64 r) ∧ Below w.heap.size w w' := by
 have HR0 := zK hr0
 have HC0 := zK hc0
 clear hr0 hc0
 have HB := zK (Below.refl w.heap.size w)
 have H : ((impl_values.f k l0 a1 a2).bind fun t174 => (if 0 ≤ (wrap64 ((l0.length : Int) - 1)) then (if (wrap64 ((l0.length : Int) - 1)) < (t174.length : Int) then (some (rd t174 (wrap64 ((l0.length : Int) - 1)))) else (none)) else (none))) = some r := h
 clear h
 replace H := Option.bind_eq_some_iff.mp H
 obtain ⟨t174, A40, H⟩ := H
 replace H : (if 0 ≤ (wrap64 ((l0.length : Int) - 1)) then (if (wrap64 ((l0.length : Int) - 1)) < (t174.length : Int) then (some (rd t174 (wrap64 ((l0.length : Int) - 1)))) else (none)) else (none)) = some r := H
 have A4 := zK A40
 clear A40
 obtain ⟨ji5, hji5⟩ : ∃ j_ : Int, (wrap64 ((l0.length : Int) - 1)) = j_ := ⟨_, rfl⟩
 replace H : (if 0 ≤ (ji5) then (if (ji5) < (t174.length : Int) then (some (rd t174 (ji5))) else (none)) else (none)) = some r := by first | (rw [hji5] at H; exact H) | (simp only [hji5] at H ⊢; exact H)
 (try rw [hji5] at A4)
 have hji5w : (IntKind.i64.wrap ((l0.length : Int) - 1)) = ji5 := (i64_w _).trans hji5
 by_cases c6 : 0 ≤ (ji5)
 ·rw [if_pos c6] at H
  have c6b0 : decide (0 ≤ (ji5)) = true := decide_eq_true c6
  clear c6
  by_cases c7 : (ji5) < (t174.length : Int)
  ·rw [if_pos c7] at H
   have c7b0 : decide ((ji5) < (t174.length : Int)) = true := decide_eq_true c7
   clear c7
   obtain rfl := Option.some.inj H
   go_enter Try.func69, Try.ntmps69
   go_wp2_with (first | ((with_reducible refine gate_callee (f := 73) rfl ?_); refine goesL_ (some 10) rfl rfl Try.func73 yi rfl #[.slice A0 l0.length c0, .int .i64 a1, .int .i64 a2] rfl yb ?_; (with_reducible refine (impl_values.calls k _ _ l0 a1 a2 t174 _ ?side1 ?side2 A4.out).mono ?_); (case side1 => exact xxc); (case side2 => exact HC0.out); rintro e w8 ⟨v175, rfl, ho0, hb⟩; refine ⟨_, rfl, ?_⟩; have n0_ := zK (Kd.R_lower ho0 (zN ya)); have n1_ := zK (zL ya hb); clear HB; have HO176 := n0_; have HB := n1_; clear n0_ n1_; (try clear hb); (try clear hb2); (try clear hk); (try clear hi); (try clear ho0); obtain ⟨Ao9, co9, eo9⟩ := Kd.R_slice HO176.out; subst eo9; have p177 : 0 ≤ ((ji5) : Int) := zo; have q177 : (ji5) < (t174.length : Int) := zo; obtain ⟨ad177, e177, hx177_0⟩ := Kd.at_int (Kd.R_reads' HO176.out).2.2 (ji5) p177 q177; cases e177; replace p177 := eq_true p177; replace q177 := eq_true q177))
   go_ret
   exact ⟨by first | rfl | (simp [errW_none, errW_some] <;> rfl) | (simp only [← hji5]; first | rfl | (simp [errW_none, errW_some] <;> rfl)) | (simp [*, errW_none, errW_some] <;> rfl), ya⟩
  ·rw [if_neg c7] at H
   exact absurd H ye1
 ·rw [if_neg c6] at H
  exact absurd H ye1

/-! ### impl_tableOf_c1_v: function 153 -/
def impl_tableOf_c1_v.f (k : Nat) (a0 : Int) (a1 : Int) (l2 : List (S47)) : Option (Int) := (impl_eval.f k l2 a0 a1).bind fun t178 => (some t178)
set_option maxHeartbeats 8000000 in
set_option maxRecDepth 100000 in
theorem impl_tableOf_c1_v.calls (k : Nat) (a0 : Int) (a1 : Int) (A2 : Option Addr) (c2 : Nat) (l2 : List (S47)) (r : Int) (w : World) (hr2 : Kd.C k47 w A2 l2.length l2) (hc2 : l2.length ≤ c2) (g0 : Nat) (hg0 : w.cell? ⟨g0, 0, none⟩ = some (.slice A2 l2.length c2)) (h : impl_tableOf_c1_v.f k a0 a1 l2 = some r) :
  Calls Try.prog 118 #[.int .i64 a0, .int .i64 a1, .pointer (some ⟨g0, 0, none⟩)] w fun e w' => e = .returned (.int .i64 r) ∧ Below w.heap.size w w' := by
 have HR2 := zK hr2
 have HC2 := zK hc2
 clear hr2 hc2
 have HB := zK (Below.refl w.heap.size w)
 have H : ((impl_eval.f k l2 a0 a1).bind fun t178 => (some t178)) = some r := h
 clear h
 replace H := Option.bind_eq_some_iff.mp H
 obtain ⟨t178, A40, H⟩ := H
 replace H : (some t178) = some r := H
 have A4 := zK A40
 clear A40
 obtain rfl := Option.some.inj H
 go_enter Try.func118, Try.ntmps118
 go_wp2_with (first | ((with_reducible refine gate_callee (f := 69) rfl ?_); refine goesL_ (some 9) rfl rfl Try.func69 yi rfl #[.slice A2 l2.length c2, .int .i64 a0, .int .i64 a1] rfl yb ?_; (with_reducible refine (impl_eval.calls k _ _ l2 a0 a1 t178 _ ?side1 ?side2 A4.out).mono ?_); (case side1 => repeat (first | exact HR2.out | (with_reducible refine Kd.C_alloc ?_ _) | (with_reducible refine Kd.C_drewN ?_ _) | (with_reducible refine Kd.C_drew ?_))); (case side2 => exact HC2.out); rintro e w5 ⟨rfl, hb⟩; refine ⟨_, rfl, ?_⟩; have n0_ := zK (zL ya hb); clear HB; have HB := n0_; clear n0_; (try clear hb); (try clear hb2); (try clear hk); (try clear hi)))
 go_ret
 exact ⟨yd, ya⟩

/-! ### impl_table_impl_tableOf_c1: function 154 -/
mutual
def impl_table_impl_tableOf_c1.l0 : Nat → List (S47) → List Int → Int → Option (List Int)
 | 0, _, _, _ => none
 | k + 1, x0, x3, x7 => if x7 < 64 then (impl_table_impl_tableOf_c1.l1 k x0 x3 x7 x7 0) else (some x3)
def impl_table_impl_tableOf_c1.l1 : Nat → List (S47) → List Int → Int → Int → Int → Option (List Int)
 | 0, _, _, _, _, _ => none
 | k + 1, x0, x3, x4, x7, x10 => if x10 < 64 then ((impl_tableOf_c1_v.f k x4 x10 x0).bind fun t182 => (if x3.length < 17592186044416 then (impl_table_impl_tableOf_c1.l1 k x0 (x3 ++ [t182]) x4 x7 (wrap64 (x10 + 1))) else (none))) else (impl_table_impl_tableOf_c1.l0 k x0 x3 (wrap64 (x7 + 1)))
end
def impl_table_impl_tableOf_c1.f (k : Nat) (l0 : List (S47)) : Option (List Int) := impl_table_impl_tableOf_c1.l0 k l0 (([] : List Int)) 0
set_option maxHeartbeats 8000000 in
set_option maxRecDepth 100000 in
theorem impl_table_impl_tableOf_c1.calls (k : Nat) (A0 : Option Addr) (c0 : Nat) (l0 : List (S47)) (r : List Int) (w : World) (hr0 : Kd.C k47 w A0 l0.length l0) (hc0 : l0.length ≤ c0) (g0 : Nat) (hg0 : w.cell? ⟨g0, 0, none⟩ = some (.slice A0 l0.length c0)) (h : impl_table_impl_tableOf_c1.f k l0 = some r) :
  Calls Try.prog 117 #[.func (.func 118) #[] #[.pointer (some ⟨g0, 0, none⟩)]] w fun e w' => ∃ v0_ : Value, e = .returned (v0_) ∧ Kd.R (Kd.int .i64) 3 w' w.heap.size (fun _ => True) v0_ r ∧ Below w.heap.size w w' := by
 have HR0 := zK hr0
 have HC0 := zK hc0
 clear hr0 hc0
 have HB := zK (Below.refl w.heap.size w)
 have H : (impl_table_impl_tableOf_c1.l0 k l0 (([] : List Int)) 0) = some r := h
 clear h
 obtain ⟨y179, hy179⟩ : ∃ y_ : List Int, y_ = (([] : List Int)) := ⟨_, rfl⟩
 replace H : (impl_table_impl_tableOf_c1.l0 k l0 y179 0) = some r := by have hy_ := hy179; exact xH
 have Ny179 := zK hy179
 clear hy179
 have H' := zK H
 clear H
 go_enter Try.func117, Try.ntmps117
 go_wp2_with (first | ((with_reducible refine gate_dst (N := 6) rfl ?_); refine Kd.R_lit (Kd.int .i64) _ 3 ?hg (N := 6) ?hd (xs := ([] : List Int)) (inner := []) (ok := fun _ => True) (okp := fun _ => True) ?hr ?hp (fun _ hk => hk) trivial (Below.refl _ _) (Nat.le_refl _) ye1 ?_; (case hd | hg => rfl); (case hr => exact xxa); (case hp => exact (Reps.none _ _)); intro v180 w2 ho3 hb hg_ hnew_; clear hg_ hnew_; (first | rw [← Ny179.out] at ho3 | (simp only [Int.reduceToNat] at ho3; rw [← Ny179.out] at ho3)); have n0_ := zK (Kd.R_lower ho3 (zN ya)); have n1_ := zK (zL ya hb); clear HB; have HO181 := n0_; have HB := n1_; clear n0_ n1_; clear hb ho3))
 go_loopg [3, 7] k (fun kq v3 v7 w' => ∃ (x3_1 : List Int) (x7_1 : Int), v7 = .int .i64 x7_1 ∧ Aside0 (impl_table_impl_tableOf_c1.l0 kq l0 x3_1 x7_1 = some r) ∧ Aside0 (kq ≤ k) ∧ Aside0 (Kd.R (Kd.int .i64) 3 w' w.heap.size (fun _ => True) v3 x3_1) ∧ Aside0 (Below w.heap.size w w'))
 case atStart => exact ⟨(y179), (0), ye, H', ⟨Nat.le_refl _⟩, ⟨yR HO181.out⟩, ⟨ya⟩⟩
 case round =>
  clear H'
  try clear c1
  try clear p2
  obtain ⟨x3_1, x7_1, rfl, HA, HK1, HO_3, HB⟩ := hrel
  cases gk with
  | zero => exact absurd HA.out (by simp [impl_table_impl_tableOf_c1.l0])
  | succ k1 =>
   have H := HA.out
   clear HA
   simp only [impl_table_impl_tableOf_c1.l0] at H
   by_cases c4 : x7_1 < 64
   ·rw [if_pos c4] at H
    have c4b0 : decide (x7_1 < 64) = true := decide_eq_true c4
    clear c4
    have H' := zK H
    clear H
    go_wp2
    go_loopg [3, 10] k1 (fun kq v3 v10 w' => ∃ (x3_2 : List Int) (x10_2 : Int), v10 = .int .i64 x10_2 ∧ Aside0 (impl_table_impl_tableOf_c1.l1 kq l0 x3_2 x7_1 x7_1 x10_2 = some r) ∧ Aside0 (kq ≤ k1) ∧ Aside0 (Kd.R (Kd.int .i64) 3 w' w.heap.size (fun _ => True) v3 x3_2) ∧ Aside0 (Below w.heap.size w w'))
    case atStart => exact ⟨(x3_1), (0), ye, H', ⟨Nat.le_refl _⟩, ⟨yn⟩, ⟨ya⟩⟩
    case round =>
     clear H'
     try clear c1
     try clear p2
     try clear c4
     try clear c4b0
     try clear p2
     obtain ⟨x3_2, x10_2, rfl, HA, HK2, HO_3, HB⟩ := hrel
     cases gk with
     | zero => exact absurd HA.out (by simp [impl_table_impl_tableOf_c1.l1])
     | succ k2 =>
      have H := HA.out
      clear HA
      simp only [impl_table_impl_tableOf_c1.l1] at H
      by_cases c5 : x10_2 < 64
      ·rw [if_pos c5] at H
       have c5b0 : decide (x10_2 < 64) = true := decide_eq_true c5
       clear c5
       replace H := Option.bind_eq_some_iff.mp H
       obtain ⟨t182, A60, H⟩ := H
       replace H : (if x3_2.length < 17592186044416 then (impl_table_impl_tableOf_c1.l1 k2 l0 (x3_2 ++ [t182]) x7_1 x7_1 (wrap64 (x10_2 + 1))) else (none)) = some r := H
       have A6 := zK A60
       clear A60
       by_cases c7 : x3_2.length < 17592186044416
       ·rw [if_pos c7] at H
        have LMc7 := zK c7
        clear c7
        obtain ⟨y183, hy183⟩ : ∃ y_ : List Int, y_ = (x3_2 ++ [t182]) := ⟨_, rfl⟩
        replace H : (impl_table_impl_tableOf_c1.l1 k2 l0 y183 x7_1 x7_1 (wrap64 (x10_2 + 1))) = some r := by have hy_ := hy183; exact xH
        have Ny183 := zK hy183
        clear hy183
        have H' := zK H
        clear H
        go_wp2_with (first | (go_at_call 118; (with_reducible refine (impl_tableOf_c1_v.calls k2 x7_1 x10_2 _ _ l0 t182 _ ?side1 ?side2 g0 (by first | exact zt HB.out hg0 | (with_unfolding_all exact hg0)) A6.out).mono ?_); (case side1 => exact xxd); (case side2 => exact HC0.out); rintro e w8 ⟨rfl, hb⟩; have n0_ := zK (Kd.R_below yn hb); have n1_ := zK (zL ya hb); clear HO_3; clear HB; have HO_3 := n0_; have HB := n1_; clear n0_ n1_; (try clear hb); (try clear hb2); (try clear hk); (try clear hi)) | ((with_reducible refine gate_builtin (b := .append) (xs := #[.tmp 13, .tmp 18]) rfl ?_); at_builtin; refine Kd.R_append (Kd.int .i64) (w0 := w) w.heap.size rfl (.tmp 13) (.tmp 18) 31 3 (.int .i64 0) 8 rfl Try.underlying31 info3 rfl yp1 (by omega) u3 x3_2 t182 [.int .i64 t182] (fun _ => True) (fun _ => False) rfl rfl ?aP (fun _ hk => hk.elim) ?aF ?aO ?aB ?aS ?aL ?_; (case aP => exact rfl); (case aB => exact ya); (case aF => exact (fun _ _ => trivial)); (case aO => exact yn); (case aS => exact (zN ya)); (case aL => have := LMc7.out; omega); intro v184 w9 ho hb hg hat; rw [← Ny183.out] at ho; have n0_ := zK (hb); have n1_ := zK (ho); clear HB; clear HO_3; have HB := n0_; have HO185 := n1_; clear n0_ n1_; clear ho hb hg hat))
        go_roundg k2
        case measure => have := HK1.out; have := HK2.out; omega
        case rel => exact ⟨(y183), (wrap64 (x10_2 + 1)), ye, H', ⟨yx⟩, ⟨yR HO185.out⟩, ⟨ya⟩⟩
       ·rw [if_neg c7] at H
        exact absurd H ye1
      ·rw [if_neg c5] at H
       have c5b0 : decide (x10_2 < 64) = false := decide_eq_false c5
       clear c5
       have H' := zK H
       clear H
       go_wp2
       go_roundg k2
       case measure => have := HK1.out; have := HK2.out; omega
       case rel => exact ⟨(x3_2), (wrap64 (x7_1 + 1)), ye, H', ⟨yx⟩, ⟨yn⟩, ⟨ya⟩⟩
   ·rw [if_neg c4] at H
    have c4b0 : decide (x7_1 < 64) = false := decide_eq_false c4
    clear c4
    obtain rfl := Option.some.inj H
    go_wp2
    go_ret
    exact ⟨_, yd, yn, ya⟩

/-! ### impl_tableOf: function 76 -/
def impl_tableOf.f (k : Nat) (l0 : List (S47)) : Option (List Int) := (impl_table_impl_tableOf_c1.f k l0).bind fun t186 => (some t186)
set_option maxHeartbeats 8000000 in
set_option maxRecDepth 100000 in
theorem impl_tableOf.calls (k : Nat) (A0 : Option Addr) (c0 : Nat) (l0 : List (S47)) (r : List Int) (w : World) (hr0 : Kd.C k47 w A0 l0.length l0) (hc0 : l0.length ≤ c0) (h : impl_tableOf.f k l0 = some r) :
  Calls Try.prog 76 #[.slice A0 l0.length c0] w fun e w' => ∃ v0_ : Value, e = .returned (v0_) ∧ Kd.R (Kd.int .i64) 3 w' w.heap.size (fun _ => True) v0_ r ∧ Below w.heap.size w w' := by
 have HR0 := zK hr0
 have HC0 := zK hc0
 clear hr0 hc0
 have HB := zK (Below.refl w.heap.size w)
 have H : ((impl_table_impl_tableOf_c1.f k l0).bind fun t186 => (some t186)) = some r := h
 clear h
 replace H := Option.bind_eq_some_iff.mp H
 obtain ⟨t186, A20, H⟩ := H
 replace H : (some t186) = some r := H
 have A2 := zK A20
 clear A20
 obtain rfl := Option.some.inj H
 go_enter Try.func76, Try.ntmps76
 have hmf : ∀ (fn : Fn) (first cap : Array Value) (w : World), (Instr.makeFunc fn first cap).run Try.prog w = .ok (.func fn first cap) w := fun _ _ _ _ => rfl
 go_wp2_with (first | ((with_reducible refine gate_dst (N := 1) rfl ?_); refine box_event ?hg (N := 1) ?hd (cs := #[.slice A0 l0.length c0]) (t := 24) ?hr ?_; (case hd | hg => rfl); (case hr => exact xxa); intro gb0 hg wb0 hbox hb; have n0_ := zK (zL ya hb); have BK0 := zK hbox; clear HB; have HB := n0_; clear n0_; clear hb hbox hg; have hczG : wb0.cell? ⟨gb0, 0, none⟩ = some (.slice A0 l0.length c0) := (zI BK0.out 0).trans rfl) | ((with_reducible refine gate_callee (f := 117) rfl ?_); refine goesL_ (some 4) rfl rfl Try.func117 yi rfl #[.func (.func 118) #[] #[.pointer (some ⟨gb0, 0, none⟩)]] rfl yb ?_; (with_reducible refine (impl_table_impl_tableOf_c1.calls k _ _ l0 t186 _ ?side1 ?side2 gb0 hczG A2.out).mono ?_); (case side1 => exact xxd); (case side2 => exact HC0.out); rintro e w3 ⟨v187, rfl, ho0, hb⟩; refine ⟨_, rfl, ?_⟩; have n0_ := zK (Kd.R_lower ho0 (zN ya)); have n1_ := zK (zL ya hb); clear HB; have HO188 := n0_; have HB := n1_; clear n0_ n1_; (try clear hb); (try clear hb2); (try clear hk); (try clear hi); (try clear ho0)))
 go_ret
 exact ⟨_, yd, yR HO188.out, ya⟩

/-! ### impl_TableOf: function 25 -/
def impl_TableOf.f (k : Nat) (l0 : List (S47)) : Option (List Int × Bool) := (impl_IsExpr.f k l0).bind fun t189 => (if t189 = true then ((impl_tableOf.f k l0).bind fun t190 => (some (t190, true))) else (some (([] : List Int), false)))
set_option maxHeartbeats 8000000 in
set_option maxRecDepth 100000 in
theorem impl_TableOf.calls (k : Nat) (A0 : Option Addr) (c0 : Nat) (l0 : List (S47)) (r1 : List Int) (r2 : Bool) (w : World) (hr0 : Kd.C k47 w A0 l0.length l0) (hc0 : l0.length ≤ c0) (h : impl_TableOf.f k l0 = some (r1, r2)) :
  Calls Try.prog 25 #[.slice A0 l0.length c0] w fun e w' => ∃ v0_ : Value, e = .returned (.tuple #[v0_, .bool r2]) ∧ Kd.R (Kd.int .i64) 3 w' w.heap.size (fun _ => True) v0_ r1 ∧ Below w.heap.size w w' := by
 have HR0 := zK hr0
 have HC0 := zK hc0
 clear hr0 hc0
 have HB := zK (Below.refl w.heap.size w)
 have H : ((impl_IsExpr.f k l0).bind fun t189 => (if t189 = true then ((impl_tableOf.f k l0).bind fun t190 => (some (t190, true))) else (some (([] : List Int), false)))) = some (r1, r2) := h
 clear h
 replace H := Option.bind_eq_some_iff.mp H
 obtain ⟨t189, A20, H⟩ := H
 replace H : (if t189 = true then ((impl_tableOf.f k l0).bind fun t190 => (some (t190, true))) else (some (([] : List Int), false))) = some (r1, r2) := H
 have A2 := zK A20
 clear A20
 by_cases c3 : t189 = true
 ·subst c3
  rw [if_pos rfl] at H
  replace H := Option.bind_eq_some_iff.mp H
  obtain ⟨t190, A40, H⟩ := H
  replace H : (some (t190, true)) = some (r1, r2) := H
  have A4 := zK A40
  clear A40
  simp only [Option.some.injEq, Prod.mk.injEq] at H
  obtain ⟨rfl, rfl⟩ := H
  go_enter Try.func25, Try.ntmps25
  go_wp2_with (first | ((with_reducible refine gate_callee (f := 20) rfl ?_); refine goesL_ (some 5) rfl rfl Try.func20 yi rfl #[.slice A0 l0.length c0] rfl yb ?_; (with_reducible refine (impl_IsExpr.calls k _ _ l0 true _ ?side1 ?side2 A2.out).mono ?_); (case side1 => exact xxc); (case side2 => exact HC0.out); rintro e w5 ⟨rfl, hb⟩; refine ⟨_, rfl, ?_⟩; have n0_ := zK (zL ya hb); clear HB; have HB := n0_; clear n0_; (try clear hb); (try clear hb2); (try clear hk); (try clear hi)) | ((with_reducible refine gate_callee (f := 76) rfl ?_); refine goesL_ (some 8) rfl rfl Try.func76 yi rfl #[.slice A0 l0.length c0] rfl yb ?_; (with_reducible refine (impl_tableOf.calls k _ _ l0 t190 _ ?side1 ?side2 A4.out).mono ?_); (case side1 => exact xxd); (case side2 => exact HC0.out); rintro e w6 ⟨v191, rfl, ho0, hb⟩; refine ⟨_, rfl, ?_⟩; have n0_ := zK (Kd.R_lower ho0 (zN ya)); have n1_ := zK (zL ya hb); clear HB; have HO192 := n0_; have HB := n1_; clear n0_ n1_; (try clear hb); (try clear hb2); (try clear hk); (try clear hi); (try clear ho0)))
  go_ret2
  exact ⟨_, yd, yR HO192.out, ya⟩
 ·replace c3 := Bool.eq_false_iff.mpr c3
  subst c3
  rw [if_neg (show ¬ (false = true) by decide)] at H
  simp only [Option.some.injEq, Prod.mk.injEq] at H
  obtain ⟨rfl, rfl⟩ := H
  go_enter Try.func25, Try.ntmps25
  go_wp2_with (first | ((with_reducible refine gate_callee (f := 20) rfl ?_); refine goesL_ (some 5) rfl rfl Try.func20 yi rfl #[.slice A0 l0.length c0] rfl yb ?_; (with_reducible refine (impl_IsExpr.calls k _ _ l0 false _ ?side1 ?side2 A2.out).mono ?_); (case side1 => exact xxc); (case side2 => exact HC0.out); rintro e w7 ⟨rfl, hb⟩; refine ⟨_, rfl, ?_⟩; have n0_ := zK (zL ya hb); clear HB; have HB := n0_; clear n0_; (try clear hb); (try clear hb2); (try clear hk); (try clear hi)))
  go_ret2
  exact ⟨_, yd, yd1, ya⟩

/-! ### laws_pTable: function 30 -/
def laws_pTable.f (k : Nat) (l0 : List (S47)) : Option (List Int) := (impl_TableOf.f k l0).bind fun bt193 => (some bt193.1)
set_option maxHeartbeats 8000000 in
set_option maxRecDepth 100000 in
theorem laws_pTable.calls (k : Nat) (A0 : Option Addr) (c0 : Nat) (l0 : List (S47)) (r : List Int) (w : World) (hr0 : Kd.C k47 w A0 l0.length l0) (hc0 : l0.length ≤ c0) (h : laws_pTable.f k l0 = some r) :
  Calls Try.prog 30 #[.slice A0 l0.length c0] w fun e w' => ∃ v0_ : Value, e = .returned (v0_) ∧ Kd.R (Kd.int .i64) 3 w' w.heap.size (fun _ => True) v0_ r ∧ Below w.heap.size w w' := by
 have HR0 := zK hr0
 have HC0 := zK hc0
 clear hr0 hc0
 have HB := zK (Below.refl w.heap.size w)
 have H : ((impl_TableOf.f k l0).bind fun bt193 => (some bt193.1)) = some r := h
 clear h
 replace H := Option.bind_eq_some_iff.mp H
 obtain ⟨⟨t193, t194⟩, A20, H⟩ := H
 replace H : (some t193) = some r := H
 have A2 := zK A20
 clear A20
 obtain rfl := Option.some.inj H
 go_enter Try.func30, Try.ntmps30
 go_wp2_with (first | ((with_reducible refine gate_callee (f := 25) rfl ?_); refine goesL_ (some 7) rfl rfl Try.func25 yi rfl #[.slice A0 l0.length c0] rfl yb ?_; (with_reducible refine (impl_TableOf.calls k _ _ l0 t193 t194 _ ?side1 ?side2 A2.out).mono ?_); (case side1 => exact xxc); (case side2 => exact HC0.out); rintro e w3 ⟨v195, rfl, ho0, hb⟩; refine ⟨_, rfl, ?_⟩; have n0_ := zK (Kd.R_lower ho0 (zN ya)); have n1_ := zK (zL ya hb); clear HB; have HO196 := n0_; have HB := n1_; clear n0_ n1_; (try clear hb); (try clear hb2); (try clear hk); (try clear hi); (try clear ho0)))
 go_ret
 exact ⟨_, yd, yR HO196.out, ya⟩

end Go.Proofs.Ytlcplhcccgbmnaa.D
