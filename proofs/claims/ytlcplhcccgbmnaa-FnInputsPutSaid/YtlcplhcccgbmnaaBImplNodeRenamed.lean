/- Contracts: impl_Node_renamed, impl_PutInput. -/
import Derived.Test.YtlcplhcccgbmnaaBK
import Derived.Test.YtlcplhcccgbmnaaBSpecL1CurAnyExpr
import Derived.Test.YtlcplhcccgbmnaaBImplNodeOf
namespace Go.Proofs.Ytlcplhcccgbmnaa.B
open Go.RowKit Go.Proofs.YtlcplhcccgbmnaaW.PrintWords Go.Proofs.YtlcplhcccgbmnaaW.PrintLast Go.Proofs.YtlcplhcccgbmnaaW.PrintMore
attribute [local go_sem] max2_int min2_int max_two min_two max_three min_three max_four min_four   -- for this text's walks alone
set_option linter.unusedVariables false
set_option linter.unusedSimpArgs false
attribute [local go_sem high] eqA47

/-! ### impl_Node_renamed: function 59 -/
def impl_Node_renamed.f (k : Nat) (a0_0 : ByteArray) (a0_1 : Int) (a0_2 : Int) (a0_3 : Int) (l1 : List Int) : Option (ByteArray × Int × Int × Int) := (impl_operands.f k a0_0).bind fun t332 => (if t332 > 0 then (if 0 ≤ a0_1 then (if a0_1 < (l1.length : Int) then (if t332 > 1 then (if 0 ≤ a0_2 then (if a0_2 < (l1.length : Int) then (some (a0_0, rd l1 a0_1, rd l1 a0_2, a0_3)) else (none)) else (none)) else (some (a0_0, rd l1 a0_1, a0_2, a0_3))) else (none)) else (none)) else (if t332 > 1 then (if 0 ≤ a0_2 then (if a0_2 < (l1.length : Int) then (some (a0_0, a0_1, rd l1 a0_2, a0_3)) else (none)) else (none)) else (some (a0_0, a0_1, a0_2, a0_3))))
theorem impl_Node_renamed.mono : ∀ a0 a1 a2 a3 a4 k, LeO (impl_Node_renamed.f k a0 a1 a2 a3 a4) (impl_Node_renamed.f (k + 1) a0 a1 a2 a3 a4) := by
 intro a0 a1 a2 a3 a4 k
 unfold impl_Node_renamed.f
 repeat' first
   | (with_reducible exact impl_operands.mono _ _)
   | (with_reducible exact LeO.refl _)
   | (with_reducible exact LeO.none _)
   | (with_reducible refine LeO.ite ?_ ?_)
   | (with_reducible refine LeO.bind ?_ (fun _ => ?_))
   | exact impl_operands.mono _ _
   | exact LeO.none _
   | refine LeO.ite ?_ ?_
   | refine LeO.bind ?_ (fun _ => ?_)
set_option maxHeartbeats 8000000 in
set_option maxRecDepth 100000 in
theorem impl_Node_renamed.calls (k : Nat) (a0_0 : ByteArray) (a0_1 : Int) (a0_2 : Int) (a0_3 : Int) (A1 : Option Addr) (c1 : Nat) (l1 : List Int) (r1 : ByteArray) (r2 : Int) (r3 : Int) (r4 : Int) (w : World) (hr1 : Kd.C (Kd.int .i64) w A1 l1.length l1) (hc1 : l1.length ≤ c1) (h : impl_Node_renamed.f k a0_0 a0_1 a0_2 a0_3 l1 = some (r1, r2, r3, r4)) :
  Calls Try.prog 59 #[.agg #[.string a0_0, .int .i64 a0_1, .int .i64 a0_2, .int .i64 a0_3], .slice A1 l1.length c1] w fun e w' => e = .returned (.agg #[.string r1, .int .i64 r2, .int .i64 r3, .int .i64 r4]) ∧ Below w.heap.size w w' := by
 have hu47 := Try.underlying47
 have HR1 := zK hr1
 have HC1 := zK hc1
 clear hr1 hc1
 have HB := zK (Below.refl w.heap.size w)
 have H : ((impl_operands.f k a0_0).bind fun t332 => (if t332 > 0 then (if 0 ≤ a0_1 then (if a0_1 < (l1.length : Int) then (if t332 > 1 then (if 0 ≤ a0_2 then (if a0_2 < (l1.length : Int) then (some (a0_0, rd l1 a0_1, rd l1 a0_2, a0_3)) else (none)) else (none)) else (some (a0_0, rd l1 a0_1, a0_2, a0_3))) else (none)) else (none)) else (if t332 > 1 then (if 0 ≤ a0_2 then (if a0_2 < (l1.length : Int) then (some (a0_0, a0_1, rd l1 a0_2, a0_3)) else (none)) else (none)) else (some (a0_0, a0_1, a0_2, a0_3))))) = some (r1, r2, r3, r4) := h
 clear h
 replace H := Option.bind_eq_some_iff.mp H
 obtain ⟨t332, A30, H⟩ := H
 replace H : (if t332 > 0 then (if 0 ≤ a0_1 then (if a0_1 < (l1.length : Int) then (if t332 > 1 then (if 0 ≤ a0_2 then (if a0_2 < (l1.length : Int) then (some (a0_0, rd l1 a0_1, rd l1 a0_2, a0_3)) else (none)) else (none)) else (some (a0_0, rd l1 a0_1, a0_2, a0_3))) else (none)) else (none)) else (if t332 > 1 then (if 0 ≤ a0_2 then (if a0_2 < (l1.length : Int) then (some (a0_0, a0_1, rd l1 a0_2, a0_3)) else (none)) else (none)) else (some (a0_0, a0_1, a0_2, a0_3)))) = some (r1, r2, r3, r4) := H
 have A3 := zK A30
 clear A30
 by_cases c4 : t332 > 0
 ·rw [if_pos c4] at H
  have c4b0 : decide (0 < t332) = true := decide_eq_true c4
  clear c4
  by_cases c5 : 0 ≤ a0_1
  ·rw [if_pos c5] at H
   have c5b0 : decide (0 ≤ a0_1) = true := decide_eq_true c5
   clear c5
   by_cases c6 : a0_1 < (l1.length : Int)
   ·rw [if_pos c6] at H
    have c6b0 : decide (a0_1 < (l1.length : Int)) = true := decide_eq_true c6
    clear c6
    by_cases c7 : t332 > 1
    ·rw [if_pos c7] at H
     have c7b0 : decide (1 < t332) = true := decide_eq_true c7
     clear c7
     by_cases c8 : 0 ≤ a0_2
     ·rw [if_pos c8] at H
      have c8b0 : decide (0 ≤ a0_2) = true := decide_eq_true c8
      clear c8
      by_cases c9 : a0_2 < (l1.length : Int)
      ·rw [if_pos c9] at H
       have c9b0 : decide (a0_2 < (l1.length : Int)) = true := decide_eq_true c9
       clear c9
       simp only [Option.some.injEq, Prod.mk.injEq] at H
       obtain ⟨rfl, rfl, rfl, rfl⟩ := H
       go_enter Try.func59, Try.ntmps59
       go_wp2_with (first | ((with_reducible refine gate_dst (N := 2) rfl ?_); refine box_event ?hg (N := 2) ?hd (cs := #[.string a0_0, .int .i64 a0_1, .int .i64 a0_2, .int .i64 a0_3]) (t := 47) ?hr ?_; (case hd => rfl); (case hg => rfl); (case hr => first | (go_simp; done) | (go_simp; rfl)); intro gb330 hg w10 hbox hb; have n0_ := zK (zL (by repeat (first | (with_reducible first | exact HB.out | apply zA | apply zB | apply zC) | exact HB.out)) hb); have n1_ := zK (hbox); have n2_ := zK ((by rw [hg]; exact (zN (by repeat (first | (with_reducible first | exact HB.out | apply zA | apply zB | apply zC) | exact HB.out))) : w.heap.size ≤ gb330)); have n3_ := zK ((by rw [hg]; exact (zN (by repeat (first | (with_reducible first | exact HB.out | apply zA | apply zB | apply zC) | exact HB.out))) : w.heap.size ≤ gb330)); clear HB; have HB := n0_; have BK330 := n1_; have GW330 := n2_; have GE330 := n3_; clear n0_ n1_ n2_ n3_; clear hb hbox hg) | ((with_reducible refine gate_dst (N := 4) rfl ?_); refine box_event ?hg (N := 4) ?hd (cs := #[.string (⟨#[]⟩ : ByteArray), .int .i64 0, .int .i64 0, .int .i64 0]) (t := 47) ?hr ?_; (case hd => rfl); (case hg => rfl); (case hr => first | (go_simp; done) | (go_simp; rfl)); intro gb331 hg w11 hbox hb; have n0_ := zK (zM (g := gb330) (o := .cells #[.string a0_0, .int .i64 a0_1, .int .i64 a0_2, .int .i64 a0_3] 47 (0, 0)) (by (with_reducible repeat (first | refine zE ?_ _ | refine zF ?_ | refine zG ?_ _)); exact BK330.out) hb); have n1_ := zK (zL (by repeat (first | (with_reducible first | exact HB.out | apply zA | apply zB | apply zC | refine zD ?_ GE330.out) | exact HB.out)) hb); have n2_ := zK (hbox); have n3_ := zK ((by rw [hg]; exact (zN (by repeat (first | (with_reducible first | exact HB.out | apply zA | apply zB | apply zC | refine zD ?_ GE330.out) | exact HB.out))) : w.heap.size ≤ gb331)); have n4_ := zK ((by rw [hg]; exact (zN (by repeat (first | (with_reducible first | exact HB.out | apply zA | apply zB | apply zC | refine zD ?_ GE330.out) | exact HB.out))) : w.heap.size ≤ gb331)); have n5_ := zK ((by rw [hg]; exact Nat.ne_of_lt (blk_lt (g := gb330) (o := .cells #[.string a0_0, .int .i64 a0_1, .int .i64 a0_2, .int .i64 a0_3] 47 (0, 0)) (by (with_reducible repeat (first | refine zE ?_ _ | refine zF ?_ | refine zG ?_ _)); exact BK330.out)) : gb330 ≠ gb331)); have n6_ := zK ((by rw [hg]; exact Nat.ne_of_gt (blk_lt (g := gb330) (o := .cells #[.string a0_0, .int .i64 a0_1, .int .i64 a0_2, .int .i64 a0_3] 47 (0, 0)) (by (with_reducible repeat (first | refine zE ?_ _ | refine zF ?_ | refine zG ?_ _)); exact BK330.out)) : gb331 ≠ gb330)); clear BK330; clear HB; have BK330 := n0_; have HB := n1_; have BK331 := n2_; have GW331 := n3_; have GE331 := n4_; have NB330_331 := n5_; have NB331_330 := n6_; clear n0_ n1_ n2_ n3_ n4_ n5_ n6_; clear hb hbox hg; have hnb12 := NB330_331.out; have hnc12 := NB331_330.out; have hcz13_0 : w11.cell? ⟨gb330, 0, none⟩ = some (.string a0_0) := (zI BK330.out 0).trans rfl; have hcz13_1 : w11.cell? ⟨gb330, 1, none⟩ = some (.int .i64 a0_1) := (zI BK330.out 1).trans rfl; have hcz13_2 : w11.cell? ⟨gb330, 2, none⟩ = some (.int .i64 a0_2) := (zI BK330.out 2).trans rfl; have hcz13_3 : w11.cell? ⟨gb330, 3, none⟩ = some (.int .i64 a0_3) := (zI BK330.out 3).trans rfl; have hfz13_0 := zH BK330.out 0; have hfz13_1 := zH BK330.out 1; have hfz13_2 := zH BK330.out 2; have hfz13_3 := zH BK330.out 3) | ((with_reducible refine gate_callee (f := 83) rfl ?_); refine goesL_ (some 8) rfl rfl Try.func83 (by kernel_rfl) rfl #[.string a0_0] rfl (by (try simp only [z6, z7, z8]); first | done | rfl | (simp only [z4, z5]; rfl)) ?_; (with_reducible refine (impl_operands.calls k a0_0 t332 _ A3.out).mono ?_); rintro e w14 ⟨rfl, hb⟩; refine ⟨_, rfl, ?_⟩; have n0_ := zK (zM (g := gb330) (o := .cells #[.string a0_0, .int .i64 a0_1, .int .i64 a0_2, .int .i64 a0_3] 47 (0, 0)) (by (with_reducible repeat (first | refine zE ?_ _ | refine zF ?_ | refine zG ?_ _)); exact BK330.out) hb); have n1_ := zK (zM (g := gb331) (o := .cells #[.string (⟨#[]⟩ : ByteArray), .int .i64 0, .int .i64 0, .int .i64 0] 47 (0, 0)) (by (with_reducible repeat (first | refine zE ?_ _ | refine zF ?_ | refine zG ?_ _)); exact BK331.out) hb); have n2_ := zK (zL (by repeat (first | (with_reducible first | exact HB.out | apply zA | apply zB | apply zC | refine zD ?_ GE330.out | refine zD ?_ GE331.out) | exact HB.out)) hb); clear BK330; clear BK331; clear HB; have BK330 := n0_; have BK331 := n1_; have HB := n2_; clear n0_ n1_ n2_; (try clear hb); (try clear hb2); (try clear hk); (try clear hi); have hcz15_0 : w14.cell? ⟨gb330, 0, none⟩ = some (.string a0_0) := (zI BK330.out 0).trans rfl; have hcz15_1 : w14.cell? ⟨gb330, 1, none⟩ = some (.int .i64 a0_1) := (zI BK330.out 1).trans rfl; have hcz15_2 : w14.cell? ⟨gb330, 2, none⟩ = some (.int .i64 a0_2) := (zI BK330.out 2).trans rfl; have hcz15_3 : w14.cell? ⟨gb330, 3, none⟩ = some (.int .i64 a0_3) := (zI BK330.out 3).trans rfl; have hfz15_0 := zH BK330.out 0; have hfz15_1 := zH BK330.out 1; have hfz15_2 := zH BK330.out 2; have hfz15_3 := zH BK330.out 3; have p333 : 0 ≤ (a0_1 : Int) := zo; have q333 : a0_1 < (l1.length : Int) := zo; obtain ⟨ad333, e333, hx333_0⟩ := Kd.at_int HR1.out a0_1 p333 q333; cases e333; replace hx333_0 := zt HB.out hx333_0; replace p333 := eq_true p333; replace q333 := eq_true q333; have p334 : 0 ≤ (a0_2 : Int) := zo; have q334 : a0_2 < (l1.length : Int) := zo; obtain ⟨ad334, e334, hx334_0⟩ := Kd.at_int HR1.out a0_2 p334 q334; obtain rfl : ad333 = ad334 := (by injection e334); have hn334_0 : ad333.block ≠ gb330 := Nat.ne_of_lt (Nat.lt_of_lt_of_le (by have := zW _ _ hx334_0; first | rwa [add_block] at this | exact this) GW330.out); replace hx334_0 := zt HB.out hx334_0; replace hx334_0 := (cell_far (p := ⟨gb330, 1, none⟩) (by first | (rw [add_block]; exact hn334_0) | (show (Addr.add _ _).block ≠ _; rw [add_block]; exact hn334_0) | exact hn334_0) (.int .i64 (rd l1 a0_1))).trans hx334_0; clear hn334_0; replace p334 := eq_true p334; replace q334 := eq_true q334; have hcz16_0 : w14.cell? ⟨gb331, 0, none⟩ = some (.string (⟨#[]⟩ : ByteArray)) := (zI BK331.out 0).trans rfl; have hcz16_1 : w14.cell? ⟨gb331, 1, none⟩ = some (.int .i64 0) := (zI BK331.out 1).trans rfl; have hcz16_2 : w14.cell? ⟨gb331, 2, none⟩ = some (.int .i64 0) := (zI BK331.out 2).trans rfl; have hcz16_3 : w14.cell? ⟨gb331, 3, none⟩ = some (.int .i64 0) := (zI BK331.out 3).trans rfl; have hfz16_0 := zH BK331.out 0; have hfz16_1 := zH BK331.out 1; have hfz16_2 := zH BK331.out 2; have hfz16_3 := zH BK331.out 3))
       refine bodyPost_ret (results_cell_row rfl _ _ gb331 47 #[.string a0_0, .int .i64 (rd l1 a0_1), .int .i64 (rd l1 a0_2), .int .i64 a0_3] (0, 0) _ rfl (by (with_reducible repeat (first | refine zE ?_ _ | refine zF ?_ | refine zG ?_ _)); refine blk_put (cs := #[.string a0_0, .int .i64 (rd l1 a0_1), .int .i64 (rd l1 a0_2), .int .i64 0]) ?_ 3 _ rfl; (with_reducible repeat (first | refine zE ?_ _ | refine zF ?_ | refine zG ?_ _)); refine blk_put (cs := #[.string a0_0, .int .i64 (rd l1 a0_1), .int .i64 0, .int .i64 0]) ?_ 2 _ rfl; (with_reducible repeat (first | refine zE ?_ _ | refine zF ?_ | refine zG ?_ _)); refine blk_put (cs := #[.string a0_0, .int .i64 0, .int .i64 0, .int .i64 0]) ?_ 1 _ rfl; (with_reducible repeat (first | refine zE ?_ _ | refine zF ?_ | refine zG ?_ _)); refine blk_put (cs := #[.string (⟨#[]⟩ : ByteArray), .int .i64 0, .int .i64 0, .int .i64 0]) ?_ 0 _ rfl; (with_reducible repeat (first | refine zE ?_ _ | refine zF ?_ | refine zG ?_ _)); refine blk_far ?_ NB331_330.out _; (with_reducible repeat (first | refine zE ?_ _ | refine zF ?_ | refine zG ?_ _)); refine blk_far ?_ NB331_330.out _; (with_reducible repeat (first | refine zE ?_ _ | refine zF ?_ | refine zG ?_ _)); exact BK331.out) Try.underlying47 rfl (by kernel_rfl)) rfl ?_
       exact ⟨by first | rfl | (simp [errW_none, errW_some] <;> rfl) | (simp [*, errW_none, errW_some] <;> rfl), by repeat (first | (with_reducible first | exact HB.out | apply zA | apply zB | apply zC | refine zD ?_ GE330.out | refine zD ?_ GE331.out) | exact HB.out)⟩
      ·rw [if_neg c9] at H
       exact absurd H (by simp)
     ·rw [if_neg c8] at H
      exact absurd H (by simp)
    ·rw [if_neg c7] at H
     have c7b0 : decide (1 < t332) = false := decide_eq_false c7
     clear c7
     simp only [Option.some.injEq, Prod.mk.injEq] at H
     obtain ⟨rfl, rfl, rfl, rfl⟩ := H
     go_enter Try.func59, Try.ntmps59
     go_wp2_with (first | ((with_reducible refine gate_dst (N := 2) rfl ?_); refine box_event ?hg (N := 2) ?hd (cs := #[.string a0_0, .int .i64 a0_1, .int .i64 a0_2, .int .i64 a0_3]) (t := 47) ?hr ?_; (case hd => rfl); (case hg => rfl); (case hr => first | (go_simp; done) | (go_simp; rfl)); intro gb330 hg w17 hbox hb; have n0_ := zK (zL (by repeat (first | (with_reducible first | exact HB.out | apply zA | apply zB | apply zC) | exact HB.out)) hb); have n1_ := zK (hbox); have n2_ := zK ((by rw [hg]; exact (zN (by repeat (first | (with_reducible first | exact HB.out | apply zA | apply zB | apply zC) | exact HB.out))) : w.heap.size ≤ gb330)); have n3_ := zK ((by rw [hg]; exact (zN (by repeat (first | (with_reducible first | exact HB.out | apply zA | apply zB | apply zC) | exact HB.out))) : w.heap.size ≤ gb330)); clear HB; have HB := n0_; have BK330 := n1_; have GW330 := n2_; have GE330 := n3_; clear n0_ n1_ n2_ n3_; clear hb hbox hg) | ((with_reducible refine gate_dst (N := 4) rfl ?_); refine box_event ?hg (N := 4) ?hd (cs := #[.string (⟨#[]⟩ : ByteArray), .int .i64 0, .int .i64 0, .int .i64 0]) (t := 47) ?hr ?_; (case hd => rfl); (case hg => rfl); (case hr => first | (go_simp; done) | (go_simp; rfl)); intro gb331 hg w18 hbox hb; have n0_ := zK (zM (g := gb330) (o := .cells #[.string a0_0, .int .i64 a0_1, .int .i64 a0_2, .int .i64 a0_3] 47 (0, 0)) (by (with_reducible repeat (first | refine zE ?_ _ | refine zF ?_ | refine zG ?_ _)); exact BK330.out) hb); have n1_ := zK (zL (by repeat (first | (with_reducible first | exact HB.out | apply zA | apply zB | apply zC | refine zD ?_ GE330.out) | exact HB.out)) hb); have n2_ := zK (hbox); have n3_ := zK ((by rw [hg]; exact (zN (by repeat (first | (with_reducible first | exact HB.out | apply zA | apply zB | apply zC | refine zD ?_ GE330.out) | exact HB.out))) : w.heap.size ≤ gb331)); have n4_ := zK ((by rw [hg]; exact (zN (by repeat (first | (with_reducible first | exact HB.out | apply zA | apply zB | apply zC | refine zD ?_ GE330.out) | exact HB.out))) : w.heap.size ≤ gb331)); have n5_ := zK ((by rw [hg]; exact Nat.ne_of_lt (blk_lt (g := gb330) (o := .cells #[.string a0_0, .int .i64 a0_1, .int .i64 a0_2, .int .i64 a0_3] 47 (0, 0)) (by (with_reducible repeat (first | refine zE ?_ _ | refine zF ?_ | refine zG ?_ _)); exact BK330.out)) : gb330 ≠ gb331)); have n6_ := zK ((by rw [hg]; exact Nat.ne_of_gt (blk_lt (g := gb330) (o := .cells #[.string a0_0, .int .i64 a0_1, .int .i64 a0_2, .int .i64 a0_3] 47 (0, 0)) (by (with_reducible repeat (first | refine zE ?_ _ | refine zF ?_ | refine zG ?_ _)); exact BK330.out)) : gb331 ≠ gb330)); clear BK330; clear HB; have BK330 := n0_; have HB := n1_; have BK331 := n2_; have GW331 := n3_; have GE331 := n4_; have NB330_331 := n5_; have NB331_330 := n6_; clear n0_ n1_ n2_ n3_ n4_ n5_ n6_; clear hb hbox hg; have hnb19 := NB330_331.out; have hnc19 := NB331_330.out; have hcz20_0 : w18.cell? ⟨gb330, 0, none⟩ = some (.string a0_0) := (zI BK330.out 0).trans rfl; have hcz20_1 : w18.cell? ⟨gb330, 1, none⟩ = some (.int .i64 a0_1) := (zI BK330.out 1).trans rfl; have hcz20_2 : w18.cell? ⟨gb330, 2, none⟩ = some (.int .i64 a0_2) := (zI BK330.out 2).trans rfl; have hcz20_3 : w18.cell? ⟨gb330, 3, none⟩ = some (.int .i64 a0_3) := (zI BK330.out 3).trans rfl; have hfz20_0 := zH BK330.out 0; have hfz20_1 := zH BK330.out 1; have hfz20_2 := zH BK330.out 2; have hfz20_3 := zH BK330.out 3) | ((with_reducible refine gate_callee (f := 83) rfl ?_); refine goesL_ (some 8) rfl rfl Try.func83 (by kernel_rfl) rfl #[.string a0_0] rfl (by (try simp only [z6, z7, z8]); first | done | rfl | (simp only [z4, z5]; rfl)) ?_; (with_reducible refine (impl_operands.calls k a0_0 t332 _ A3.out).mono ?_); rintro e w21 ⟨rfl, hb⟩; refine ⟨_, rfl, ?_⟩; have n0_ := zK (zM (g := gb330) (o := .cells #[.string a0_0, .int .i64 a0_1, .int .i64 a0_2, .int .i64 a0_3] 47 (0, 0)) (by (with_reducible repeat (first | refine zE ?_ _ | refine zF ?_ | refine zG ?_ _)); exact BK330.out) hb); have n1_ := zK (zM (g := gb331) (o := .cells #[.string (⟨#[]⟩ : ByteArray), .int .i64 0, .int .i64 0, .int .i64 0] 47 (0, 0)) (by (with_reducible repeat (first | refine zE ?_ _ | refine zF ?_ | refine zG ?_ _)); exact BK331.out) hb); have n2_ := zK (zL (by repeat (first | (with_reducible first | exact HB.out | apply zA | apply zB | apply zC | refine zD ?_ GE330.out | refine zD ?_ GE331.out) | exact HB.out)) hb); clear BK330; clear BK331; clear HB; have BK330 := n0_; have BK331 := n1_; have HB := n2_; clear n0_ n1_ n2_; (try clear hb); (try clear hb2); (try clear hk); (try clear hi); have hcz22_0 : w21.cell? ⟨gb330, 0, none⟩ = some (.string a0_0) := (zI BK330.out 0).trans rfl; have hcz22_1 : w21.cell? ⟨gb330, 1, none⟩ = some (.int .i64 a0_1) := (zI BK330.out 1).trans rfl; have hcz22_2 : w21.cell? ⟨gb330, 2, none⟩ = some (.int .i64 a0_2) := (zI BK330.out 2).trans rfl; have hcz22_3 : w21.cell? ⟨gb330, 3, none⟩ = some (.int .i64 a0_3) := (zI BK330.out 3).trans rfl; have hfz22_0 := zH BK330.out 0; have hfz22_1 := zH BK330.out 1; have hfz22_2 := zH BK330.out 2; have hfz22_3 := zH BK330.out 3; have p333 : 0 ≤ (a0_1 : Int) := zo; have q333 : a0_1 < (l1.length : Int) := zo; obtain ⟨ad333, e333, hx333_0⟩ := Kd.at_int HR1.out a0_1 p333 q333; cases e333; replace hx333_0 := zt HB.out hx333_0; replace p333 := eq_true p333; replace q333 := eq_true q333; have hcz23_0 : w21.cell? ⟨gb331, 0, none⟩ = some (.string (⟨#[]⟩ : ByteArray)) := (zI BK331.out 0).trans rfl; have hcz23_1 : w21.cell? ⟨gb331, 1, none⟩ = some (.int .i64 0) := (zI BK331.out 1).trans rfl; have hcz23_2 : w21.cell? ⟨gb331, 2, none⟩ = some (.int .i64 0) := (zI BK331.out 2).trans rfl; have hcz23_3 : w21.cell? ⟨gb331, 3, none⟩ = some (.int .i64 0) := (zI BK331.out 3).trans rfl; have hfz23_0 := zH BK331.out 0; have hfz23_1 := zH BK331.out 1; have hfz23_2 := zH BK331.out 2; have hfz23_3 := zH BK331.out 3))
     refine bodyPost_ret (results_cell_row rfl _ _ gb331 47 #[.string a0_0, .int .i64 (rd l1 a0_1), .int .i64 a0_2, .int .i64 a0_3] (0, 0) _ rfl (by (with_reducible repeat (first | refine zE ?_ _ | refine zF ?_ | refine zG ?_ _)); refine blk_put (cs := #[.string a0_0, .int .i64 (rd l1 a0_1), .int .i64 a0_2, .int .i64 0]) ?_ 3 _ rfl; (with_reducible repeat (first | refine zE ?_ _ | refine zF ?_ | refine zG ?_ _)); refine blk_put (cs := #[.string a0_0, .int .i64 (rd l1 a0_1), .int .i64 0, .int .i64 0]) ?_ 2 _ rfl; (with_reducible repeat (first | refine zE ?_ _ | refine zF ?_ | refine zG ?_ _)); refine blk_put (cs := #[.string a0_0, .int .i64 0, .int .i64 0, .int .i64 0]) ?_ 1 _ rfl; (with_reducible repeat (first | refine zE ?_ _ | refine zF ?_ | refine zG ?_ _)); refine blk_put (cs := #[.string (⟨#[]⟩ : ByteArray), .int .i64 0, .int .i64 0, .int .i64 0]) ?_ 0 _ rfl; (with_reducible repeat (first | refine zE ?_ _ | refine zF ?_ | refine zG ?_ _)); refine blk_far ?_ NB331_330.out _; (with_reducible repeat (first | refine zE ?_ _ | refine zF ?_ | refine zG ?_ _)); exact BK331.out) Try.underlying47 rfl (by kernel_rfl)) rfl ?_
     exact ⟨by first | rfl | (simp [errW_none, errW_some] <;> rfl) | (simp [*, errW_none, errW_some] <;> rfl), by repeat (first | (with_reducible first | exact HB.out | apply zA | apply zB | apply zC | refine zD ?_ GE330.out | refine zD ?_ GE331.out) | exact HB.out)⟩
   ·rw [if_neg c6] at H
    exact absurd H (by simp)
  ·rw [if_neg c5] at H
   exact absurd H (by simp)
 ·rw [if_neg c4] at H
  have c4b0 : decide (0 < t332) = false := decide_eq_false c4
  clear c4
  by_cases c24 : t332 > 1
  ·rw [if_pos c24] at H
   have c24b0 : decide (1 < t332) = true := decide_eq_true c24
   clear c24
   by_cases c25 : 0 ≤ a0_2
   ·rw [if_pos c25] at H
    have c25b0 : decide (0 ≤ a0_2) = true := decide_eq_true c25
    clear c25
    by_cases c26 : a0_2 < (l1.length : Int)
    ·rw [if_pos c26] at H
     have c26b0 : decide (a0_2 < (l1.length : Int)) = true := decide_eq_true c26
     clear c26
     simp only [Option.some.injEq, Prod.mk.injEq] at H
     obtain ⟨rfl, rfl, rfl, rfl⟩ := H
     go_enter Try.func59, Try.ntmps59
     go_wp2_with (first | ((with_reducible refine gate_dst (N := 2) rfl ?_); refine box_event ?hg (N := 2) ?hd (cs := #[.string a0_0, .int .i64 a0_1, .int .i64 a0_2, .int .i64 a0_3]) (t := 47) ?hr ?_; (case hd => rfl); (case hg => rfl); (case hr => first | (go_simp; done) | (go_simp; rfl)); intro gb330 hg w27 hbox hb; have n0_ := zK (zL (by repeat (first | (with_reducible first | exact HB.out | apply zA | apply zB | apply zC) | exact HB.out)) hb); have n1_ := zK (hbox); have n2_ := zK ((by rw [hg]; exact (zN (by repeat (first | (with_reducible first | exact HB.out | apply zA | apply zB | apply zC) | exact HB.out))) : w.heap.size ≤ gb330)); have n3_ := zK ((by rw [hg]; exact (zN (by repeat (first | (with_reducible first | exact HB.out | apply zA | apply zB | apply zC) | exact HB.out))) : w.heap.size ≤ gb330)); clear HB; have HB := n0_; have BK330 := n1_; have GW330 := n2_; have GE330 := n3_; clear n0_ n1_ n2_ n3_; clear hb hbox hg) | ((with_reducible refine gate_dst (N := 4) rfl ?_); refine box_event ?hg (N := 4) ?hd (cs := #[.string (⟨#[]⟩ : ByteArray), .int .i64 0, .int .i64 0, .int .i64 0]) (t := 47) ?hr ?_; (case hd => rfl); (case hg => rfl); (case hr => first | (go_simp; done) | (go_simp; rfl)); intro gb331 hg w28 hbox hb; have n0_ := zK (zM (g := gb330) (o := .cells #[.string a0_0, .int .i64 a0_1, .int .i64 a0_2, .int .i64 a0_3] 47 (0, 0)) (by (with_reducible repeat (first | refine zE ?_ _ | refine zF ?_ | refine zG ?_ _)); exact BK330.out) hb); have n1_ := zK (zL (by repeat (first | (with_reducible first | exact HB.out | apply zA | apply zB | apply zC | refine zD ?_ GE330.out) | exact HB.out)) hb); have n2_ := zK (hbox); have n3_ := zK ((by rw [hg]; exact (zN (by repeat (first | (with_reducible first | exact HB.out | apply zA | apply zB | apply zC | refine zD ?_ GE330.out) | exact HB.out))) : w.heap.size ≤ gb331)); have n4_ := zK ((by rw [hg]; exact (zN (by repeat (first | (with_reducible first | exact HB.out | apply zA | apply zB | apply zC | refine zD ?_ GE330.out) | exact HB.out))) : w.heap.size ≤ gb331)); have n5_ := zK ((by rw [hg]; exact Nat.ne_of_lt (blk_lt (g := gb330) (o := .cells #[.string a0_0, .int .i64 a0_1, .int .i64 a0_2, .int .i64 a0_3] 47 (0, 0)) (by (with_reducible repeat (first | refine zE ?_ _ | refine zF ?_ | refine zG ?_ _)); exact BK330.out)) : gb330 ≠ gb331)); have n6_ := zK ((by rw [hg]; exact Nat.ne_of_gt (blk_lt (g := gb330) (o := .cells #[.string a0_0, .int .i64 a0_1, .int .i64 a0_2, .int .i64 a0_3] 47 (0, 0)) (by (with_reducible repeat (first | refine zE ?_ _ | refine zF ?_ | refine zG ?_ _)); exact BK330.out)) : gb331 ≠ gb330)); clear BK330; clear HB; have BK330 := n0_; have HB := n1_; have BK331 := n2_; have GW331 := n3_; have GE331 := n4_; have NB330_331 := n5_; have NB331_330 := n6_; clear n0_ n1_ n2_ n3_ n4_ n5_ n6_; clear hb hbox hg; have hnb29 := NB330_331.out; have hnc29 := NB331_330.out; have hcz30_0 : w28.cell? ⟨gb330, 0, none⟩ = some (.string a0_0) := (zI BK330.out 0).trans rfl; have hcz30_1 : w28.cell? ⟨gb330, 1, none⟩ = some (.int .i64 a0_1) := (zI BK330.out 1).trans rfl; have hcz30_2 : w28.cell? ⟨gb330, 2, none⟩ = some (.int .i64 a0_2) := (zI BK330.out 2).trans rfl; have hcz30_3 : w28.cell? ⟨gb330, 3, none⟩ = some (.int .i64 a0_3) := (zI BK330.out 3).trans rfl; have hfz30_0 := zH BK330.out 0; have hfz30_1 := zH BK330.out 1; have hfz30_2 := zH BK330.out 2; have hfz30_3 := zH BK330.out 3) | ((with_reducible refine gate_callee (f := 83) rfl ?_); refine goesL_ (some 8) rfl rfl Try.func83 (by kernel_rfl) rfl #[.string a0_0] rfl (by (try simp only [z6, z7, z8]); first | done | rfl | (simp only [z4, z5]; rfl)) ?_; (with_reducible refine (impl_operands.calls k a0_0 t332 _ A3.out).mono ?_); rintro e w31 ⟨rfl, hb⟩; refine ⟨_, rfl, ?_⟩; have n0_ := zK (zM (g := gb330) (o := .cells #[.string a0_0, .int .i64 a0_1, .int .i64 a0_2, .int .i64 a0_3] 47 (0, 0)) (by (with_reducible repeat (first | refine zE ?_ _ | refine zF ?_ | refine zG ?_ _)); exact BK330.out) hb); have n1_ := zK (zM (g := gb331) (o := .cells #[.string (⟨#[]⟩ : ByteArray), .int .i64 0, .int .i64 0, .int .i64 0] 47 (0, 0)) (by (with_reducible repeat (first | refine zE ?_ _ | refine zF ?_ | refine zG ?_ _)); exact BK331.out) hb); have n2_ := zK (zL (by repeat (first | (with_reducible first | exact HB.out | apply zA | apply zB | apply zC | refine zD ?_ GE330.out | refine zD ?_ GE331.out) | exact HB.out)) hb); clear BK330; clear BK331; clear HB; have BK330 := n0_; have BK331 := n1_; have HB := n2_; clear n0_ n1_ n2_; (try clear hb); (try clear hb2); (try clear hk); (try clear hi); have hcz32_0 : w31.cell? ⟨gb330, 0, none⟩ = some (.string a0_0) := (zI BK330.out 0).trans rfl; have hcz32_1 : w31.cell? ⟨gb330, 1, none⟩ = some (.int .i64 a0_1) := (zI BK330.out 1).trans rfl; have hcz32_2 : w31.cell? ⟨gb330, 2, none⟩ = some (.int .i64 a0_2) := (zI BK330.out 2).trans rfl; have hcz32_3 : w31.cell? ⟨gb330, 3, none⟩ = some (.int .i64 a0_3) := (zI BK330.out 3).trans rfl; have hfz32_0 := zH BK330.out 0; have hfz32_1 := zH BK330.out 1; have hfz32_2 := zH BK330.out 2; have hfz32_3 := zH BK330.out 3; have p335 : 0 ≤ (a0_2 : Int) := zo; have q335 : a0_2 < (l1.length : Int) := zo; obtain ⟨ad335, e335, hx335_0⟩ := Kd.at_int HR1.out a0_2 p335 q335; cases e335; replace hx335_0 := zt HB.out hx335_0; replace p335 := eq_true p335; replace q335 := eq_true q335; have hcz33_0 : w31.cell? ⟨gb331, 0, none⟩ = some (.string (⟨#[]⟩ : ByteArray)) := (zI BK331.out 0).trans rfl; have hcz33_1 : w31.cell? ⟨gb331, 1, none⟩ = some (.int .i64 0) := (zI BK331.out 1).trans rfl; have hcz33_2 : w31.cell? ⟨gb331, 2, none⟩ = some (.int .i64 0) := (zI BK331.out 2).trans rfl; have hcz33_3 : w31.cell? ⟨gb331, 3, none⟩ = some (.int .i64 0) := (zI BK331.out 3).trans rfl; have hfz33_0 := zH BK331.out 0; have hfz33_1 := zH BK331.out 1; have hfz33_2 := zH BK331.out 2; have hfz33_3 := zH BK331.out 3))
     refine bodyPost_ret (results_cell_row rfl _ _ gb331 47 #[.string a0_0, .int .i64 a0_1, .int .i64 (rd l1 a0_2), .int .i64 a0_3] (0, 0) _ rfl (by (with_reducible repeat (first | refine zE ?_ _ | refine zF ?_ | refine zG ?_ _)); refine blk_put (cs := #[.string a0_0, .int .i64 a0_1, .int .i64 (rd l1 a0_2), .int .i64 0]) ?_ 3 _ rfl; (with_reducible repeat (first | refine zE ?_ _ | refine zF ?_ | refine zG ?_ _)); refine blk_put (cs := #[.string a0_0, .int .i64 a0_1, .int .i64 0, .int .i64 0]) ?_ 2 _ rfl; (with_reducible repeat (first | refine zE ?_ _ | refine zF ?_ | refine zG ?_ _)); refine blk_put (cs := #[.string a0_0, .int .i64 0, .int .i64 0, .int .i64 0]) ?_ 1 _ rfl; (with_reducible repeat (first | refine zE ?_ _ | refine zF ?_ | refine zG ?_ _)); refine blk_put (cs := #[.string (⟨#[]⟩ : ByteArray), .int .i64 0, .int .i64 0, .int .i64 0]) ?_ 0 _ rfl; (with_reducible repeat (first | refine zE ?_ _ | refine zF ?_ | refine zG ?_ _)); refine blk_far ?_ NB331_330.out _; (with_reducible repeat (first | refine zE ?_ _ | refine zF ?_ | refine zG ?_ _)); exact BK331.out) Try.underlying47 rfl (by kernel_rfl)) rfl ?_
     exact ⟨by first | rfl | (simp [errW_none, errW_some] <;> rfl) | (simp [*, errW_none, errW_some] <;> rfl), by repeat (first | (with_reducible first | exact HB.out | apply zA | apply zB | apply zC | refine zD ?_ GE330.out | refine zD ?_ GE331.out) | exact HB.out)⟩
    ·rw [if_neg c26] at H
     exact absurd H (by simp)
   ·rw [if_neg c25] at H
    exact absurd H (by simp)
  ·rw [if_neg c24] at H
   have c24b0 : decide (1 < t332) = false := decide_eq_false c24
   clear c24
   simp only [Option.some.injEq, Prod.mk.injEq] at H
   obtain ⟨rfl, rfl, rfl, rfl⟩ := H
   go_enter Try.func59, Try.ntmps59
   go_wp2_with (first | ((with_reducible refine gate_dst (N := 2) rfl ?_); refine box_event ?hg (N := 2) ?hd (cs := #[.string a0_0, .int .i64 a0_1, .int .i64 a0_2, .int .i64 a0_3]) (t := 47) ?hr ?_; (case hd => rfl); (case hg => rfl); (case hr => first | (go_simp; done) | (go_simp; rfl)); intro gb330 hg w34 hbox hb; have n0_ := zK (zL (by repeat (first | (with_reducible first | exact HB.out | apply zA | apply zB | apply zC) | exact HB.out)) hb); have n1_ := zK (hbox); have n2_ := zK ((by rw [hg]; exact (zN (by repeat (first | (with_reducible first | exact HB.out | apply zA | apply zB | apply zC) | exact HB.out))) : w.heap.size ≤ gb330)); have n3_ := zK ((by rw [hg]; exact (zN (by repeat (first | (with_reducible first | exact HB.out | apply zA | apply zB | apply zC) | exact HB.out))) : w.heap.size ≤ gb330)); clear HB; have HB := n0_; have BK330 := n1_; have GW330 := n2_; have GE330 := n3_; clear n0_ n1_ n2_ n3_; clear hb hbox hg) | ((with_reducible refine gate_dst (N := 4) rfl ?_); refine box_event ?hg (N := 4) ?hd (cs := #[.string (⟨#[]⟩ : ByteArray), .int .i64 0, .int .i64 0, .int .i64 0]) (t := 47) ?hr ?_; (case hd => rfl); (case hg => rfl); (case hr => first | (go_simp; done) | (go_simp; rfl)); intro gb331 hg w35 hbox hb; have n0_ := zK (zM (g := gb330) (o := .cells #[.string a0_0, .int .i64 a0_1, .int .i64 a0_2, .int .i64 a0_3] 47 (0, 0)) (by (with_reducible repeat (first | refine zE ?_ _ | refine zF ?_ | refine zG ?_ _)); exact BK330.out) hb); have n1_ := zK (zL (by repeat (first | (with_reducible first | exact HB.out | apply zA | apply zB | apply zC | refine zD ?_ GE330.out) | exact HB.out)) hb); have n2_ := zK (hbox); have n3_ := zK ((by rw [hg]; exact (zN (by repeat (first | (with_reducible first | exact HB.out | apply zA | apply zB | apply zC | refine zD ?_ GE330.out) | exact HB.out))) : w.heap.size ≤ gb331)); have n4_ := zK ((by rw [hg]; exact (zN (by repeat (first | (with_reducible first | exact HB.out | apply zA | apply zB | apply zC | refine zD ?_ GE330.out) | exact HB.out))) : w.heap.size ≤ gb331)); have n5_ := zK ((by rw [hg]; exact Nat.ne_of_lt (blk_lt (g := gb330) (o := .cells #[.string a0_0, .int .i64 a0_1, .int .i64 a0_2, .int .i64 a0_3] 47 (0, 0)) (by (with_reducible repeat (first | refine zE ?_ _ | refine zF ?_ | refine zG ?_ _)); exact BK330.out)) : gb330 ≠ gb331)); have n6_ := zK ((by rw [hg]; exact Nat.ne_of_gt (blk_lt (g := gb330) (o := .cells #[.string a0_0, .int .i64 a0_1, .int .i64 a0_2, .int .i64 a0_3] 47 (0, 0)) (by (with_reducible repeat (first | refine zE ?_ _ | refine zF ?_ | refine zG ?_ _)); exact BK330.out)) : gb331 ≠ gb330)); clear BK330; clear HB; have BK330 := n0_; have HB := n1_; have BK331 := n2_; have GW331 := n3_; have GE331 := n4_; have NB330_331 := n5_; have NB331_330 := n6_; clear n0_ n1_ n2_ n3_ n4_ n5_ n6_; clear hb hbox hg; have hnb36 := NB330_331.out; have hnc36 := NB331_330.out; have hcz37_0 : w35.cell? ⟨gb330, 0, none⟩ = some (.string a0_0) := (zI BK330.out 0).trans rfl; have hcz37_1 : w35.cell? ⟨gb330, 1, none⟩ = some (.int .i64 a0_1) := (zI BK330.out 1).trans rfl; have hcz37_2 : w35.cell? ⟨gb330, 2, none⟩ = some (.int .i64 a0_2) := (zI BK330.out 2).trans rfl; have hcz37_3 : w35.cell? ⟨gb330, 3, none⟩ = some (.int .i64 a0_3) := (zI BK330.out 3).trans rfl; have hfz37_0 := zH BK330.out 0; have hfz37_1 := zH BK330.out 1; have hfz37_2 := zH BK330.out 2; have hfz37_3 := zH BK330.out 3) | ((with_reducible refine gate_callee (f := 83) rfl ?_); refine goesL_ (some 8) rfl rfl Try.func83 (by kernel_rfl) rfl #[.string a0_0] rfl (by (try simp only [z6, z7, z8]); first | done | rfl | (simp only [z4, z5]; rfl)) ?_; (with_reducible refine (impl_operands.calls k a0_0 t332 _ A3.out).mono ?_); rintro e w38 ⟨rfl, hb⟩; refine ⟨_, rfl, ?_⟩; have n0_ := zK (zM (g := gb330) (o := .cells #[.string a0_0, .int .i64 a0_1, .int .i64 a0_2, .int .i64 a0_3] 47 (0, 0)) (by (with_reducible repeat (first | refine zE ?_ _ | refine zF ?_ | refine zG ?_ _)); exact BK330.out) hb); have n1_ := zK (zM (g := gb331) (o := .cells #[.string (⟨#[]⟩ : ByteArray), .int .i64 0, .int .i64 0, .int .i64 0] 47 (0, 0)) (by (with_reducible repeat (first | refine zE ?_ _ | refine zF ?_ | refine zG ?_ _)); exact BK331.out) hb); have n2_ := zK (zL (by repeat (first | (with_reducible first | exact HB.out | apply zA | apply zB | apply zC | refine zD ?_ GE330.out | refine zD ?_ GE331.out) | exact HB.out)) hb); clear BK330; clear BK331; clear HB; have BK330 := n0_; have BK331 := n1_; have HB := n2_; clear n0_ n1_ n2_; (try clear hb); (try clear hb2); (try clear hk); (try clear hi); have hcz39_0 : w38.cell? ⟨gb330, 0, none⟩ = some (.string a0_0) := (zI BK330.out 0).trans rfl; have hcz39_1 : w38.cell? ⟨gb330, 1, none⟩ = some (.int .i64 a0_1) := (zI BK330.out 1).trans rfl; have hcz39_2 : w38.cell? ⟨gb330, 2, none⟩ = some (.int .i64 a0_2) := (zI BK330.out 2).trans rfl; have hcz39_3 : w38.cell? ⟨gb330, 3, none⟩ = some (.int .i64 a0_3) := (zI BK330.out 3).trans rfl; have hfz39_0 := zH BK330.out 0; have hfz39_1 := zH BK330.out 1; have hfz39_2 := zH BK330.out 2; have hfz39_3 := zH BK330.out 3; have hcz40_0 : w38.cell? ⟨gb331, 0, none⟩ = some (.string (⟨#[]⟩ : ByteArray)) := (zI BK331.out 0).trans rfl; have hcz40_1 : w38.cell? ⟨gb331, 1, none⟩ = some (.int .i64 0) := (zI BK331.out 1).trans rfl; have hcz40_2 : w38.cell? ⟨gb331, 2, none⟩ = some (.int .i64 0) := (zI BK331.out 2).trans rfl; have hcz40_3 : w38.cell? ⟨gb331, 3, none⟩ = some (.int .i64 0) := (zI BK331.out 3).trans rfl; have hfz40_0 := zH BK331.out 0; have hfz40_1 := zH BK331.out 1; have hfz40_2 := zH BK331.out 2; have hfz40_3 := zH BK331.out 3))
   refine bodyPost_ret (results_cell_row rfl _ _ gb331 47 #[.string a0_0, .int .i64 a0_1, .int .i64 a0_2, .int .i64 a0_3] (0, 0) _ rfl (by (with_reducible repeat (first | refine zE ?_ _ | refine zF ?_ | refine zG ?_ _)); refine blk_put (cs := #[.string a0_0, .int .i64 a0_1, .int .i64 a0_2, .int .i64 0]) ?_ 3 _ rfl; (with_reducible repeat (first | refine zE ?_ _ | refine zF ?_ | refine zG ?_ _)); refine blk_put (cs := #[.string a0_0, .int .i64 a0_1, .int .i64 0, .int .i64 0]) ?_ 2 _ rfl; (with_reducible repeat (first | refine zE ?_ _ | refine zF ?_ | refine zG ?_ _)); refine blk_put (cs := #[.string a0_0, .int .i64 0, .int .i64 0, .int .i64 0]) ?_ 1 _ rfl; (with_reducible repeat (first | refine zE ?_ _ | refine zF ?_ | refine zG ?_ _)); refine blk_put (cs := #[.string (⟨#[]⟩ : ByteArray), .int .i64 0, .int .i64 0, .int .i64 0]) ?_ 0 _ rfl; (with_reducible repeat (first | refine zE ?_ _ | refine zF ?_ | refine zG ?_ _)); exact BK331.out) Try.underlying47 rfl (by kernel_rfl)) rfl ?_
   exact ⟨by first | rfl | (simp [errW_none, errW_some] <;> rfl) | (simp [*, errW_none, errW_some] <;> rfl), by repeat (first | (with_reducible first | exact HB.out | apply zA | apply zB | apply zC | refine zD ?_ GE330.out | refine zD ?_ GE331.out) | exact HB.out)⟩

/-! ### impl_PutInput: function 10 -/
mutual
def impl_PutInput.j0 : Nat → List (S47) → Int → List (S47) → Bool → Option ((List (S47)) × Bool)
 | 0, _, _, _, _ => none
 | k + 1, x0, x1, x2, x25 => if x25 = true then (some (([] : List (S47)), false)) else ((impl_Node_57.f k x0 (⟨#[105, 110]⟩ : ByteArray) 0 0 x1).bind fun t340 => (if t340 = true then ((impl_Node_58.f x2).bind fun t344 => (if 0 ≤ (x0.length : Int) then (if ((x0.length : Int) : Int).toNat ≤ 35184372088832 then (impl_PutInput.l0 k x2 t344 (List.replicate ((x0.length : Int) : Int).toNat 0) x0 (x0.length : Int) 0 (⟨#[105, 110]⟩ : ByteArray) 0 0 x1) else (none)) else (none))) else ((impl_Node_58.f x0).bind fun t341 => (some (t341, true)))))
def impl_PutInput.l0 : Nat → List (S47) → List (S47) → List Int → List (S47) → Int → Int → ByteArray → Int → Int → Int → Option ((List (S47)) × Bool)
 | 0, _, _, _, _, _, _, _, _, _, _ => none
 | k + 1, x2, x9, x10, x39, x40, x41, x340000, x340001, x340002, x340003 => if x41 < x40 then (if 0 ≤ x41 then (if x41 < (x39.length : Int) then (if ((((rd_T47 x39 x41).f0).toList) == x340000.toList && (((rd_T47 x39 x41).f1) == x340001 && (((rd_T47 x39 x41).f2) == x340002 && (((rd_T47 x39 x41).f3) == x340003)))) = true then (if x41 < (x10.length : Int) then (impl_PutInput.l0 k x2 x9 (x10.set (x41 : Int).toNat (wrap64 ((x2.length : Int) - 1))) x39 x40 (wrap64 (x41 + 1)) x340000 x340001 x340002 x340003) else (none)) else (if x41 < (x10.length : Int) then ((some (x10.set (x41 : Int).toNat (x9.length : Int) : List Int)).bind fun y353 => ((impl_Node_renamed.f k ((rd_T47 x39 x41).f0) ((rd_T47 x39 x41).f1) ((rd_T47 x39 x41).f2) ((rd_T47 x39 x41).f3) y353).bind fun bt354 => (if x9.length < 3518437208883 then (impl_PutInput.l0 k x2 (x9 ++ [(⟨bt354.1, bt354.2.1, bt354.2.2.1, bt354.2.2.2⟩ : S47)]) y353 x39 x40 (wrap64 (x41 + 1)) x340000 x340001 x340002 x340003) else (none)))) else (none))) else (none)) else (none)) else (if (x9.length : Int) > 24 then (some (([] : List (S47)), false)) else (some (x9, true)))
end
def impl_PutInput.f (k : Nat) (l0 : List (S47)) (a1 : Int) (l2 : List (S47)) : Option ((List (S47)) × Bool) := (impl_IsExpr.f k l0).bind fun t336 => (if t336 = true then ((impl_IsExpr.f k l2).bind fun t337 => (if t337 = true then ((impl_within.f a1 0 1).bind fun t338 => (impl_PutInput.j0 k l0 a1 l2 (!t338))) else (impl_PutInput.j0 k l0 a1 l2 true))) else (impl_PutInput.j0 k l0 a1 l2 true))
theorem impl_PutInput.mono_l : ∀ k, (∀ y0 y1 y2 y3, LeO (impl_PutInput.j0 k y0 y1 y2 y3) (impl_PutInput.j0 (k + 1) y0 y1 y2 y3)) ∧ (∀ y0 y1 y2 y3 y4 y5 y6 y7 y8 y9, LeO (impl_PutInput.l0 k y0 y1 y2 y3 y4 y5 y6 y7 y8 y9) (impl_PutInput.l0 (k + 1) y0 y1 y2 y3 y4 y5 y6 y7 y8 y9))
 | 0 => ⟨fun _ _ _ _ r h => by simp [impl_PutInput.j0] at h, fun _ _ _ _ _ _ _ _ _ _ r h => by simp [impl_PutInput.l0] at h⟩
 | k + 1 => by
  obtain ⟨ih0, ih1⟩ := impl_PutInput.mono_l k
  refine ⟨?_, ?_⟩
  ·intro y0 y1 y2 y3
   unfold impl_PutInput.j0
   repeat' first
   | (with_reducible exact ih0 _ _ _ _)
   | (with_reducible exact ih1 _ _ _ _ _ _ _ _ _ _)
   | (with_reducible exact impl_IsExpr.mono _ _)
   | (with_reducible exact impl_Node_57.mono _ _ _ _ _ _)
   | (with_reducible exact impl_Node_renamed.mono _ _ _ _ _ _)
   | (with_reducible exact LeO.refl _)
   | (with_reducible exact LeO.none _)
   | (with_reducible refine LeO.ite ?_ ?_)
   | (with_reducible refine LeO.bind ?_ (fun _ => ?_))
   | exact ih0 _ _ _ _
   | exact ih1 _ _ _ _ _ _ _ _ _ _
   | exact impl_IsExpr.mono _ _
   | exact impl_Node_57.mono _ _ _ _ _ _
   | exact impl_Node_renamed.mono _ _ _ _ _ _
   | exact LeO.none _
   | refine LeO.ite ?_ ?_
   | refine LeO.bind ?_ (fun _ => ?_)
  ·intro y0 y1 y2 y3 y4 y5 y6 y7 y8 y9
   unfold impl_PutInput.l0
   repeat' first
   | (with_reducible exact ih0 _ _ _ _)
   | (with_reducible exact ih1 _ _ _ _ _ _ _ _ _ _)
   | (with_reducible exact impl_IsExpr.mono _ _)
   | (with_reducible exact impl_Node_57.mono _ _ _ _ _ _)
   | (with_reducible exact impl_Node_renamed.mono _ _ _ _ _ _)
   | (with_reducible exact LeO.refl _)
   | (with_reducible exact LeO.none _)
   | (with_reducible refine LeO.ite ?_ ?_)
   | (with_reducible refine LeO.bind ?_ (fun _ => ?_))
   | exact ih0 _ _ _ _
   | exact ih1 _ _ _ _ _ _ _ _ _ _
   | exact impl_IsExpr.mono _ _
   | exact impl_Node_57.mono _ _ _ _ _ _
   | exact impl_Node_renamed.mono _ _ _ _ _ _
   | exact LeO.none _
   | refine LeO.ite ?_ ?_
   | refine LeO.bind ?_ (fun _ => ?_)
theorem impl_PutInput.mono : ∀ a0 a1 a2 k, LeO (impl_PutInput.f k a0 a1 a2) (impl_PutInput.f (k + 1) a0 a1 a2) := by
 intro a0 a1 a2 k
 obtain ⟨ih0, ih1⟩ := impl_PutInput.mono_l k
 unfold impl_PutInput.f
 repeat' first
   | (with_reducible exact ih0 _ _ _ _)
   | (with_reducible exact ih1 _ _ _ _ _ _ _ _ _ _)
   | (with_reducible exact impl_IsExpr.mono _ _)
   | (with_reducible exact impl_Node_57.mono _ _ _ _ _ _)
   | (with_reducible exact impl_Node_renamed.mono _ _ _ _ _ _)
   | (with_reducible exact LeO.refl _)
   | (with_reducible exact LeO.none _)
   | (with_reducible refine LeO.ite ?_ ?_)
   | (with_reducible refine LeO.bind ?_ (fun _ => ?_))
   | exact ih0 _ _ _ _
   | exact ih1 _ _ _ _ _ _ _ _ _ _
   | exact impl_IsExpr.mono _ _
   | exact impl_Node_57.mono _ _ _ _ _ _
   | exact impl_Node_renamed.mono _ _ _ _ _ _
   | exact LeO.none _
   | refine LeO.ite ?_ ?_
   | refine LeO.bind ?_ (fun _ => ?_)
set_option maxHeartbeats 8000000 in
set_option maxRecDepth 100000 in
theorem impl_PutInput.calls (k : Nat) (A0 : Option Addr) (c0 : Nat) (l0 : List (S47)) (a1 : Int) (A2 : Option Addr) (c2 : Nat) (l2 : List (S47)) (r1 : List (S47)) (r2 : Bool) (w : World) (hr0 : Kd.C k47 w A0 l0.length l0) (hc0 : l0.length ≤ c0) (hr2 : Kd.C k47 w A2 l2.length l2) (hc2 : l2.length ≤ c2) (h : impl_PutInput.f k l0 a1 l2 = some (r1, r2)) :
  Calls Try.prog 10 #[.slice A0 l0.length c0, .int .i64 a1, .slice A2 l2.length c2] w fun e w' => ∃ v0_ : Value, e = .returned (.tuple #[v0_, .bool r2]) ∧ Kd.R k47 47 w' w.heap.size (fun _ => True) v0_ r1 ∧ Below w.heap.size w w' := by
 have hu47 := Try.underlying47
 have HR0 := zK hr0
 have HC0 := zK hc0
 clear hr0 hc0
 have HR2 := zK hr2
 have HC2 := zK hc2
 clear hr2 hc2
 have HB := zK (Below.refl w.heap.size w)
 have H : ((impl_IsExpr.f k l0).bind fun t336 => (if t336 = true then ((impl_IsExpr.f k l2).bind fun t337 => (if t337 = true then ((impl_within.f a1 0 1).bind fun t338 => (impl_PutInput.j0 k l0 a1 l2 (!t338))) else (impl_PutInput.j0 k l0 a1 l2 true))) else (impl_PutInput.j0 k l0 a1 l2 true))) = some (r1, r2) := h
 clear h
 have HC4 := zK H
 clear H
 go_enter Try.func10, Try.ntmps10
 go_upto_region 1 with (fail)
 go_cut [25] (fun v25 wc => ∃ (kq : Nat) (x25_3 : Bool), v25 = .bool x25_3 ∧ Aside0 (impl_PutInput.j0 kq l0 a1 l2 x25_3 = some (r1, r2)) ∧ Aside0 (kq ≤ k) ∧ Aside0 (Below w.heap.size w wc))
 case first =>
  have H := HC4.out
  clear HC4
  replace H := Option.bind_eq_some_iff.mp H
  obtain ⟨t336, A50, H⟩ := H
  replace H : (if t336 = true then ((impl_IsExpr.f k l2).bind fun t337 => (if t337 = true then ((impl_within.f a1 0 1).bind fun t338 => (impl_PutInput.j0 k l0 a1 l2 (!t338))) else (impl_PutInput.j0 k l0 a1 l2 true))) else (impl_PutInput.j0 k l0 a1 l2 true)) = some (r1, r2) := H
  have A5 := zK A50
  clear A50
  by_cases c6 : t336 = true
  ·subst c6
   have H1 : ((impl_IsExpr.f k l2).bind fun t337 => (if t337 = true then ((impl_within.f a1 0 1).bind fun t338 => (impl_PutInput.j0 k l0 a1 l2 (!t338))) else (impl_PutInput.j0 k l0 a1 l2 true))) = some (r1, r2) := by rw [if_pos rfl] at H; exact H
   clear H
   have H := H1
   clear H1
   replace H := Option.bind_eq_some_iff.mp H
   obtain ⟨t337, A70, H⟩ := H
   replace H : (if t337 = true then ((impl_within.f a1 0 1).bind fun t338 => (impl_PutInput.j0 k l0 a1 l2 (!t338))) else (impl_PutInput.j0 k l0 a1 l2 true)) = some (r1, r2) := H
   have A7 := zK A70
   clear A70
   by_cases c8 : t337 = true
   ·subst c8
    have H1 : ((impl_within.f a1 0 1).bind fun t338 => (impl_PutInput.j0 k l0 a1 l2 (!t338))) = some (r1, r2) := by rw [if_pos rfl] at H; exact H
    clear H
    have H := H1
    clear H1
    replace H := Option.bind_eq_some_iff.mp H
    obtain ⟨t338, A90, H⟩ := H
    replace H : (impl_PutInput.j0 k l0 a1 l2 (!t338)) = some (r1, r2) := H
    have A9 := zK A90
    clear A90
    have H' := zK H
    clear H
    go_wp2_with (first | ((with_reducible refine gate_callee (f := 20) rfl ?_); refine goesL_ (some 14) rfl rfl Try.func20 (by kernel_rfl) rfl #[.slice A0 l0.length c0] rfl (by (try simp only [z6, z7, z8]); first | done | rfl | (simp only [z4, z5]; rfl)) ?_; (with_reducible refine (impl_IsExpr.calls k _ _ l0 true _ ?side1 ?side2 A5.out).mono ?_); (case side1 => repeat (first | exact (Kd.C_below HR0.out HB.out) | (with_reducible refine Kd.C_alloc ?_ _) | (with_reducible refine Kd.C_drewN ?_ _) | (with_reducible refine Kd.C_drew ?_))); (case side2 => exact HC0.out); rintro e w10 ⟨rfl, hb⟩; refine ⟨_, rfl, ?_⟩; have n0_ := zK (zL (by repeat (first | (with_reducible first | exact HB.out | apply zA | apply zB | apply zC) | exact HB.out)) hb); clear HB; have HB := n0_; clear n0_; (try clear hb); (try clear hb2); (try clear hk); (try clear hi)) | (go_at_call 20; (with_reducible refine (impl_IsExpr.calls k _ _ l2 true _ ?side1 ?side2 A7.out).mono ?_); (case side1 => repeat (first | exact (Kd.C_below HR2.out HB.out) | (with_reducible refine Kd.C_alloc ?_ _) | (with_reducible refine Kd.C_drewN ?_ _) | (with_reducible refine Kd.C_drew ?_))); (case side2 => exact HC2.out); rintro e w11 ⟨rfl, hb⟩; have n0_ := zK (zL (by repeat (first | (with_reducible first | exact HB.out | apply zA | apply zB | apply zC) | exact HB.out)) hb); clear HB; have HB := n0_; clear n0_; (try clear hb); (try clear hb2); (try clear hk); (try clear hi)) | (go_at_call 56; (with_reducible refine (impl_within.calls a1 0 1 t338 _ A9.out).mono ?_); rintro e w' ⟨rfl, ⟨nd, rfl⟩⟩))
    go_meet
    case rel => exact ⟨_, (!t338), (by first | rfl | (simp; done) | (simp [*]; done)), H', ⟨by first | omega | exact Nat.le_refl _⟩, ⟨by repeat (first | (with_reducible first | exact HB.out | apply zA | apply zB | apply zC) | exact HB.out)⟩⟩
   ·replace c8 := Bool.eq_false_iff.mpr c8
    subst c8
    have H1 : (impl_PutInput.j0 k l0 a1 l2 true) = some (r1, r2) := by rw [if_neg (show ¬ (false = true) by decide)] at H; exact H
    clear H
    have H := H1
    clear H1
    have H' := zK H
    clear H
    go_wp2_with (first | ((with_reducible refine gate_callee (f := 20) rfl ?_); refine goesL_ (some 14) rfl rfl Try.func20 (by kernel_rfl) rfl #[.slice A0 l0.length c0] rfl (by (try simp only [z6, z7, z8]); first | done | rfl | (simp only [z4, z5]; rfl)) ?_; (with_reducible refine (impl_IsExpr.calls k _ _ l0 true _ ?side1 ?side2 A5.out).mono ?_); (case side1 => repeat (first | exact (Kd.C_below HR0.out HB.out) | (with_reducible refine Kd.C_alloc ?_ _) | (with_reducible refine Kd.C_drewN ?_ _) | (with_reducible refine Kd.C_drew ?_))); (case side2 => exact HC0.out); rintro e w12 ⟨rfl, hb⟩; refine ⟨_, rfl, ?_⟩; have n0_ := zK (zL (by repeat (first | (with_reducible first | exact HB.out | apply zA | apply zB | apply zC) | exact HB.out)) hb); clear HB; have HB := n0_; clear n0_; (try clear hb); (try clear hb2); (try clear hk); (try clear hi)) | (go_at_call 20; (with_reducible refine (impl_IsExpr.calls k _ _ l2 false _ ?side1 ?side2 A7.out).mono ?_); (case side1 => repeat (first | exact (Kd.C_below HR2.out HB.out) | (with_reducible refine Kd.C_alloc ?_ _) | (with_reducible refine Kd.C_drewN ?_ _) | (with_reducible refine Kd.C_drew ?_))); (case side2 => exact HC2.out); rintro e w13 ⟨rfl, hb⟩; have n0_ := zK (zL (by repeat (first | (with_reducible first | exact HB.out | apply zA | apply zB | apply zC) | exact HB.out)) hb); clear HB; have HB := n0_; clear n0_; (try clear hb); (try clear hb2); (try clear hk); (try clear hi)))
    go_meet
    case rel => exact ⟨_, (true), (by first | rfl | (simp; done) | (simp [*]; done)), H', ⟨by first | omega | exact Nat.le_refl _⟩, ⟨by repeat (first | (with_reducible first | exact HB.out | apply zA | apply zB | apply zC) | exact HB.out)⟩⟩
  ·replace c6 := Bool.eq_false_iff.mpr c6
   subst c6
   have H1 : (impl_PutInput.j0 k l0 a1 l2 true) = some (r1, r2) := by rw [if_neg (show ¬ (false = true) by decide)] at H; exact H
   clear H
   have H := H1
   clear H1
   have H' := zK H
   clear H
   go_wp2_with (first | ((with_reducible refine gate_callee (f := 20) rfl ?_); refine goesL_ (some 14) rfl rfl Try.func20 (by kernel_rfl) rfl #[.slice A0 l0.length c0] rfl (by (try simp only [z6, z7, z8]); first | done | rfl | (simp only [z4, z5]; rfl)) ?_; (with_reducible refine (impl_IsExpr.calls k _ _ l0 false _ ?side1 ?side2 A5.out).mono ?_); (case side1 => repeat (first | exact (Kd.C_below HR0.out HB.out) | (with_reducible refine Kd.C_alloc ?_ _) | (with_reducible refine Kd.C_drewN ?_ _) | (with_reducible refine Kd.C_drew ?_))); (case side2 => exact HC0.out); rintro e w14 ⟨rfl, hb⟩; refine ⟨_, rfl, ?_⟩; have n0_ := zK (zL (by repeat (first | (with_reducible first | exact HB.out | apply zA | apply zB | apply zC) | exact HB.out)) hb); clear HB; have HB := n0_; clear n0_; (try clear hb); (try clear hb2); (try clear hk); (try clear hi)))
   go_meet
   case rel => exact ⟨_, (true), (by first | rfl | (simp; done) | (simp [*]; done)), H', ⟨by first | omega | exact Nat.le_refl _⟩, ⟨by repeat (first | (with_reducible first | exact HB.out | apply zA | apply zB | apply zC) | exact HB.out)⟩⟩
 case rest =>
  clear HC4
  try clear c1
  try clear c2
  try clear p2
  try clear c6
  try clear c8
  try clear c10
  obtain ⟨kq, x25_3, rfl, HA, HJ3, HB⟩ := hcut
  cases kq with
  | zero => exact absurd HA.out (by simp [impl_PutInput.j0])
  | succ kj3 =>
   have H := HA.out
   clear HA
   simp only [impl_PutInput.j0] at H
   by_cases c15 : x25_3 = true
   ·subst c15
    have H1 : (some (([] : List (S47)), false)) = some (r1, r2) := by rw [if_pos rfl] at H; exact H
    clear H
    have H := H1
    clear H1
    simp only [Option.some.injEq, Prod.mk.injEq] at H
    obtain ⟨rfl, rfl⟩ := H
    go_wp2
    go_ret2
    exact ⟨_, by first | rfl | (simp [errW_none, errW_some] <;> rfl) | (simp [*, errW_none, errW_some] <;> rfl), by first | exact Kd.R_nil _ _ _ _ _ | exact Kd.N_nil _ _ _ _ _ | exact Kd.V_nil _ _ _ _ _ | exact Kd.Q_nil _ _ _ _ _ | exact Kd.S_nil _ _ _ _ _, by repeat (first | (with_reducible first | exact HB.out | apply zA | apply zB | apply zC) | exact HB.out)⟩
   ·replace c15 := Bool.eq_false_iff.mpr c15
    subst c15
    have H1 : ((impl_Node_57.f kj3 l0 (⟨#[105, 110]⟩ : ByteArray) 0 0 a1).bind fun t340 => (if t340 = true then ((impl_Node_58.f l2).bind fun t344 => (if 0 ≤ (l0.length : Int) then (if ((l0.length : Int) : Int).toNat ≤ 35184372088832 then (impl_PutInput.l0 kj3 l2 t344 (List.replicate ((l0.length : Int) : Int).toNat 0) l0 (l0.length : Int) 0 (⟨#[105, 110]⟩ : ByteArray) 0 0 a1) else (none)) else (none))) else ((impl_Node_58.f l0).bind fun t341 => (some (t341, true))))) = some (r1, r2) := by rw [if_neg (show ¬ (false = true) by decide)] at H; exact H
    clear H
    have H := H1
    clear H1
    replace H := Option.bind_eq_some_iff.mp H
    obtain ⟨t340, A160, H⟩ := H
    replace H : (if t340 = true then ((impl_Node_58.f l2).bind fun t344 => (if 0 ≤ (l0.length : Int) then (if ((l0.length : Int) : Int).toNat ≤ 35184372088832 then (impl_PutInput.l0 kj3 l2 t344 (List.replicate ((l0.length : Int) : Int).toNat 0) l0 (l0.length : Int) 0 (⟨#[105, 110]⟩ : ByteArray) 0 0 a1) else (none)) else (none))) else ((impl_Node_58.f l0).bind fun t341 => (some (t341, true)))) = some (r1, r2) := H
    have A16 := zK A160
    clear A160
    by_cases c17 : t340 = true
    ·subst c17
     have H1 : ((impl_Node_58.f l2).bind fun t344 => (if 0 ≤ (l0.length : Int) then (if ((l0.length : Int) : Int).toNat ≤ 35184372088832 then (impl_PutInput.l0 kj3 l2 t344 (List.replicate ((l0.length : Int) : Int).toNat 0) l0 (l0.length : Int) 0 (⟨#[105, 110]⟩ : ByteArray) 0 0 a1) else (none)) else (none))) = some (r1, r2) := by rw [if_pos rfl] at H; exact H
     clear H
     have H := H1
     clear H1
     replace H := Option.bind_eq_some_iff.mp H
     obtain ⟨t344, A180, H⟩ := H
     replace H : (if 0 ≤ (l0.length : Int) then (if ((l0.length : Int) : Int).toNat ≤ 35184372088832 then (impl_PutInput.l0 kj3 l2 t344 (List.replicate ((l0.length : Int) : Int).toNat 0) l0 (l0.length : Int) 0 (⟨#[105, 110]⟩ : ByteArray) 0 0 a1) else (none)) else (none)) = some (r1, r2) := H
     have A18 := zK A180
     clear A180
     by_cases c19 : 0 ≤ (l0.length : Int)
     ·rw [if_pos c19] at H
      have c19b0 := eq_true c19
      have c19b1 : decide (0 ≤ (l0.length : Int)) = true := decide_eq_true c19
      clear c19
      by_cases c20 : ((l0.length : Int) : Int).toNat ≤ 35184372088832
      ·rw [if_pos c20] at H
       have c20b0 := eq_true c20
       have c20b1 : decide (((l0.length : Int) : Int).toNat ≤ 35184372088832) = true := decide_eq_true c20
       clear c20
       obtain ⟨y347, hy347⟩ : ∃ y_ : List Int, y_ = (List.replicate ((l0.length : Int) : Int).toNat 0) := ⟨_, rfl⟩
       replace H : (impl_PutInput.l0 kj3 l2 t344 y347 l0 (l0.length : Int) 0 (⟨#[105, 110]⟩ : ByteArray) 0 0 a1) = some (r1, r2) := by first | (rw [hy347]; with_reducible exact H) | (have H2_ := (Option.bind_some _ _).symm.trans H; rw [hy347]; with_reducible exact H2_) | (have H2_ := (Option.bind_some _ _).symm.trans H; with_reducible exact H2_) | with_reducible exact H | (rw [hy347]; exact H) | exact H
       have Ny347 := zK hy347
       clear hy347
       have H' := zK H
       clear H
       try go_wp2_with (first | ((with_reducible refine gate_dst (N := 8) rfl ?_); refine box_event ?hg (N := 8) ?hd (cs := #[.string (⟨#[]⟩ : ByteArray), .int .i64 0, .int .i64 0, .int .i64 0]) (t := 47) ?hr ?_; (case hd => rfl); (case hg => rfl); (case hr => first | (go_simp; done) | (go_simp; rfl)); intro gb339 hg w21 hbox hb; have n0_ := zK (zL (by repeat (first | (with_reducible first | exact HB.out | apply zA | apply zB | apply zC) | exact HB.out)) hb); have n1_ := zK (hbox); have n2_ := zK ((by rw [hg]; exact (zN (by repeat (first | (with_reducible first | exact HB.out | apply zA | apply zB | apply zC) | exact HB.out))) : w.heap.size ≤ gb339)); have n3_ := zK ((by rw [hg]; exact (zN (by repeat (first | (with_reducible first | exact HB.out | apply zA | apply zB | apply zC) | exact HB.out))) : w.heap.size ≤ gb339)); clear HB; have HB := n0_; have BK339 := n1_; have GW339 := n2_; have GE339 := n3_; clear n0_ n1_ n2_ n3_; clear hb hbox hg; have hcz22_0 : w21.cell? ⟨gb339, 0, none⟩ = some (.string (⟨#[]⟩ : ByteArray)) := (zI BK339.out 0).trans rfl; have hcz22_1 : w21.cell? ⟨gb339, 1, none⟩ = some (.int .i64 0) := (zI BK339.out 1).trans rfl; have hcz22_2 : w21.cell? ⟨gb339, 2, none⟩ = some (.int .i64 0) := (zI BK339.out 2).trans rfl; have hcz22_3 : w21.cell? ⟨gb339, 3, none⟩ = some (.int .i64 0) := (zI BK339.out 3).trans rfl; have hfz22_0 := zH BK339.out 0; have hfz22_1 := zH BK339.out 1; have hfz22_2 := zH BK339.out 2; have hfz22_3 := zH BK339.out 3) | ((with_reducible refine gate_callee (f := 57) rfl ?_); refine goesL_ (some 30) rfl rfl Try.func57 (by kernel_rfl) rfl #[.slice A0 l0.length c0, .agg #[.string (⟨#[105, 110]⟩ : ByteArray), .int .i64 0, .int .i64 0, .int .i64 a1]] rfl (by (try simp only [z6, z7, z8]); first | done | rfl | (simp only [z4, z5]; rfl)) ?_; (with_reducible refine (impl_Node_57.calls kj3 _ _ l0 (⟨#[105, 110]⟩ : ByteArray) 0 0 a1 true _ ?side1 ?side2 A16.out).mono ?_); (case side1 => exact Kd.C_below HR0.out (by repeat (first | (with_reducible first | exact HB.out | apply zA | apply zB | apply zC | refine zD ?_ GE339.out) | exact HB.out))); (case side2 => exact HC0.out); rintro e w23 ⟨rfl, hb⟩; refine ⟨_, rfl, ?_⟩; have n0_ := zK (zM (g := gb339) (o := .cells #[.string (⟨#[105, 110]⟩ : ByteArray), .int .i64 0, .int .i64 0, .int .i64 a1] 47 (0, 0)) (by (with_reducible repeat (first | refine zE ?_ _ | refine zF ?_ | refine zG ?_ _)); refine blk_put (cs := #[.string (⟨#[105, 110]⟩ : ByteArray), .int .i64 0, .int .i64 0, .int .i64 0]) ?_ 3 _ rfl; (with_reducible repeat (first | refine zE ?_ _ | refine zF ?_ | refine zG ?_ _)); refine blk_put (cs := #[.string (⟨#[105, 110]⟩ : ByteArray), .int .i64 0, .int .i64 0, .int .i64 0]) ?_ 2 _ rfl; (with_reducible repeat (first | refine zE ?_ _ | refine zF ?_ | refine zG ?_ _)); refine blk_put (cs := #[.string (⟨#[105, 110]⟩ : ByteArray), .int .i64 0, .int .i64 0, .int .i64 0]) ?_ 1 _ rfl; (with_reducible repeat (first | refine zE ?_ _ | refine zF ?_ | refine zG ?_ _)); refine blk_put (cs := #[.string (⟨#[]⟩ : ByteArray), .int .i64 0, .int .i64 0, .int .i64 0]) ?_ 0 _ rfl; (with_reducible repeat (first | refine zE ?_ _ | refine zF ?_ | refine zG ?_ _)); exact BK339.out) hb); have n1_ := zK (zL (by repeat (first | (with_reducible first | exact HB.out | apply zA | apply zB | apply zC | refine zD ?_ GE339.out) | exact HB.out)) hb); clear BK339; clear HB; have BK339 := n0_; have HB := n1_; clear n0_ n1_; (try clear hb); (try clear hb2); (try clear hk); (try clear hi)))
       have n0_ := zK (zF BK339.out)
       have n1_ := zK (zC HB.out)
       clear BK339
       clear HB
       have BK339 := n0_
       have HB := n1_
       clear n0_ n1_
       refine start_ (n := 7) (S := fun w' => True) (ds := []) #[false, false, false, false, false, false, false] (by kernel_rfl) rfl rfl trivial (fun hHeld => ?_)
       generalize w23.drew = w24 at BK339 HB hHeld ⊢
       refine pure_ (i := 0) (N := some 34) (v := ?_) (a' := ?_) #[true, false, false, false, false, false, false] rfl rfl (by kernel_rfl) (fun _ _ _ h => h) (Or.inl ⟨by rfl, ?_⟩) ?_ ?_
       rotate_left
       ·intro w'
        go_simp
        with_reducible rfl
       rotate_left
       ·simp only [Act.put, z1, z2, z3, i64_w, i32_w]
        rfl
       refine pure_ (i := 2) (N := some 36) (v := ?_) (a' := ?_) #[true, false, true, false, false, false, false] rfl rfl (by kernel_rfl) (fun _ _ _ h => h) (Or.inl ⟨by rfl, ?_⟩) ?_ ?_
       rotate_left
       ·intro w'
        go_simp
        with_reducible rfl
       rotate_left
       ·simp only [Act.put, z1, z2, z3, i64_w, i32_w]
        rfl
       refine pure_ (i := 3) (N := some 37) (v := ?_) (a' := ?_) #[true, false, true, true, false, false, false] rfl rfl (by kernel_rfl) (fun _ _ _ h => h) (Or.inl ⟨by rfl, ?_⟩) ?_ ?_
       rotate_left
       ·intro w'
        go_simp
        with_reducible rfl
       rotate_left
       ·simp only [Act.put, z1, z2, z3, i64_w, i32_w]
        rfl
       refine join_ (σ := Value × Value) 1 #[true, true, true, true, true, true, false] (fun s_ => [(35, s_.1), (38, s_.2), (9, s_.1)]) (fun s_ w' => (Kd.R k47 47 w' w.heap.size (fun k_ => k_ ≠ gb339) s_.1 t344) ∧ (Kd.R (Kd.int .i64) 3 w' w.heap.size (fun _ => True) s_.2 y347) ∧ (w'.heap[gb339]? = some (.cells #[.string (⟨#[105, 110]⟩ : ByteArray), .int .i64 0, .int .i64 0, .int .i64 a1] 47 (0, 0))) ∧ (Below w.heap.size w w')) ?_ ?_
       rotate_left
       ·intro hCont
        refine two_ (i := 1) (j := 4) (Ni := some 35) (Nj := some 38) #[true, true, true, true, false, false, false] #[true, false, true, true, true, false, false] rfl rfl rfl rfl (by kernel_rfl) (by decide) (by decide) (fun K hK => ?_) (fun K hK => ?_)
        ·skip
         refine goes_ Try.func58 (by kernel_rfl) rfl #[.slice A2 l2.length c2] (by rfl) rfl rfl (by (try simp only [z6, z7, z8]); first | done | rfl | (simp only [z4, z5]; rfl)) ?_
         with_reducible refine (impl_Node_58.calls _ _ l2 t344 _ ?side1 ?side2 A18.out).mono ?_
         (case side1 => repeat (first | exact (Kd.C_below HR2.out HB.out) | (with_reducible refine Kd.C_alloc ?_ _) | (with_reducible refine Kd.C_drewN ?_ _) | (with_reducible refine Kd.C_drew ?_)))
         (case side2 => exact HC2.out)
         rintro e w25 ⟨v345, rfl, ho0, hb⟩
         refine ⟨_, rfl, ?_⟩
         have n0_ := zK (Kd.R_lower (Kd.R_newB ho0 (g := gb339) (o := .cells #[.string (⟨#[105, 110]⟩ : ByteArray), .int .i64 0, .int .i64 0, .int .i64 a1] 47 (0, 0)) (by (with_reducible repeat (first | refine zE ?_ _ | refine zF ?_ | refine zG ?_ _)); exact BK339.out)) (zN (by repeat (first | (with_reducible first | exact HB.out | apply zA | apply zB | apply zC | refine zD ?_ GE339.out) | exact HB.out))))
         have n1_ := zK (zM (g := gb339) (o := .cells #[.string (⟨#[105, 110]⟩ : ByteArray), .int .i64 0, .int .i64 0, .int .i64 a1] 47 (0, 0)) (by (with_reducible repeat (first | refine zE ?_ _ | refine zF ?_ | refine zG ?_ _)); exact BK339.out) hb)
         have n2_ := zK (zL (by repeat (first | (with_reducible first | exact HB.out | apply zA | apply zB | apply zC | refine zD ?_ GE339.out) | exact HB.out)) hb)
         clear BK339
         clear HB
         have HO346 := n0_
         have BK339 := n1_
         have HB := n2_
         clear n0_ n1_ n2_
         (try clear hb)
         (try clear hb2)
         (try clear hk)
         (try clear hi)
         (try clear ho0)
         refine hK.out _ _ trivial (fun hHeld => ?_)
         clear hK K
         refine norm_ (a' := ?_) ?_ ?_
         rotate_left
         ·show Act.put _ (some 35) _ = _
          simp only [Act.put, z1, z2, z3, i64_w, i32_w]
          rfl
         refine pure_ (i := 5) (N := some 9) (v := ?_) (a' := ?_) #[true, true, true, true, false, true, false] rfl rfl (by kernel_rfl) (fun _ _ _ h => h) (Or.inl ⟨by rfl, ?_⟩) ?_ ?_
         rotate_left
         ·intro w'
          go_simp
          with_reducible rfl
         rotate_left
         ·simp only [Act.put, z1, z2, z3, i64_w, i32_w]
          rfl
         refine one_ (i := 4) (N := some 38) #[true, true, true, true, true, true, false] rfl rfl (by kernel_rfl) (by decide) (fun K hK => ?_)
         refine Kd.R_make_step (Kd.int .i64) _ 3 (by rfl) (N := 38) rfl 31 _ _ rfl (l0.length : Int) rfl rfl Try.underlying31 (.int .i64 0) 8 info3 rfl (by decide) (by omega) 0 (ok := fun _ => True) (okp := fun _ => True) rfl (fun _ hk => hk) trivial (zo) (Nat.le_trans (Nat.mul_le_mul_right _ (zo : (l0.length : Int).toNat ≤ 35184372088832)) (by omega)) (Below.refl _ _) (Nat.le_refl _) ?_
         intro v348 w26 ho27 hb hg_ hnew_
         clear hg_ hnew_
         (first | rw [← Ny347.out] at ho27 | (simp only [Int.reduceToNat] at ho27; rw [← Ny347.out] at ho27))
         have n0_ := zK (Kd.R_below (by (with_reducible repeat (first | apply Kd.R_alloc | apply Kd.R_drewN | apply Kd.R_drew)); exact HO346.out) hb)
         have n1_ := zK (Kd.R_lower ho27 (zN (by repeat (first | (with_reducible first | exact HB.out | apply zA | apply zB | apply zC | refine zD ?_ GE339.out) | exact HB.out))))
         have n2_ := zK (zM (g := gb339) (o := .cells #[.string (⟨#[105, 110]⟩ : ByteArray), .int .i64 0, .int .i64 0, .int .i64 a1] 47 (0, 0)) (by (with_reducible repeat (first | refine zE ?_ _ | refine zF ?_ | refine zG ?_ _)); exact BK339.out) hb)
         have n3_ := zK (zL (by repeat (first | (with_reducible first | exact HB.out | apply zA | apply zB | apply zC | refine zD ?_ GE339.out) | exact HB.out)) hb)
         clear HO346
         clear BK339
         clear HB
         have HO346 := n0_
         have HO349 := n1_
         have BK339 := n2_
         have HB := n3_
         clear n0_ n1_ n2_ n3_
         clear hb ho27
         refine hK.out _ _ trivial (fun hHeld => ?_)
         clear hK K
         refine norm_ (a' := ?_) ?_ ?_
         rotate_left
         ·show Act.put _ (some 38) _ = _
          simp only [Act.put, z1, z2, z3, i64_w, i32_w]
          rfl
         exact norm_ (by simp only [putAll, Act.put, z1, z2, z3]) (hCont (v345, v348) _ ⟨(by (with_reducible repeat (first | apply Kd.R_alloc | apply Kd.R_drewN | apply Kd.R_drew)); exact Kd.R_mono HO346.out (fun _ hk => hk.2)), (by (with_reducible repeat (first | apply Kd.R_alloc | apply Kd.R_drewN | apply Kd.R_drew)); exact HO349.out), (by (with_reducible repeat (first | refine zE ?_ _ | refine zF ?_ | refine zG ?_ _)); exact BK339.out), (by repeat (first | (with_reducible first | exact HB.out | apply zA | apply zB | apply zC | refine zD ?_ GE339.out) | exact HB.out))⟩)
        ·skip
         refine Kd.R_make_step (Kd.int .i64) _ 3 (by rfl) (N := 38) rfl 31 _ _ rfl (l0.length : Int) rfl rfl Try.underlying31 (.int .i64 0) 8 info3 rfl (by decide) (by omega) 0 (ok := fun _ => True) (okp := fun _ => True) rfl (fun _ hk => hk) trivial (zo) (Nat.le_trans (Nat.mul_le_mul_right _ (zo : (l0.length : Int).toNat ≤ 35184372088832)) (by omega)) (Below.refl _ _) (Nat.le_refl _) ?_
         intro v348 w25 ho26 hb hg_ hnew_
         clear hg_ hnew_
         (first | rw [← Ny347.out] at ho26 | (simp only [Int.reduceToNat] at ho26; rw [← Ny347.out] at ho26))
         have n0_ := zK (Kd.R_lower ho26 (zN (by repeat (first | (with_reducible first | exact HB.out | apply zA | apply zB | apply zC | refine zD ?_ GE339.out) | exact HB.out))))
         have n1_ := zK (zM (g := gb339) (o := .cells #[.string (⟨#[105, 110]⟩ : ByteArray), .int .i64 0, .int .i64 0, .int .i64 a1] 47 (0, 0)) (by (with_reducible repeat (first | refine zE ?_ _ | refine zF ?_ | refine zG ?_ _)); exact BK339.out) hb)
         have n2_ := zK (zL (by repeat (first | (with_reducible first | exact HB.out | apply zA | apply zB | apply zC | refine zD ?_ GE339.out) | exact HB.out)) hb)
         clear BK339
         clear HB
         have HO349 := n0_
         have BK339 := n1_
         have HB := n2_
         clear n0_ n1_ n2_
         clear hb ho26
         refine hK.out _ _ trivial (fun hHeld => ?_)
         clear hK K
         refine norm_ (a' := ?_) ?_ ?_
         rotate_left
         ·show Act.put _ (some 38) _ = _
          simp only [Act.put, z1, z2, z3, i64_w, i32_w]
          rfl
         refine one_ (i := 1) (N := some 35) #[true, true, true, true, true, false, false] rfl rfl (by kernel_rfl) (by decide) (fun K hK => ?_)
         refine goes_ Try.func58 (by kernel_rfl) rfl #[.slice A2 l2.length c2] (by rfl) rfl rfl (by (try simp only [z6, z7, z8]); first | done | rfl | (simp only [z4, z5]; rfl)) ?_
         with_reducible refine (impl_Node_58.calls _ _ l2 t344 _ ?side1 ?side2 A18.out).mono ?_
         (case side1 => repeat (first | exact (Kd.C_below HR2.out HB.out) | (with_reducible refine Kd.C_alloc ?_ _) | (with_reducible refine Kd.C_drewN ?_ _) | (with_reducible refine Kd.C_drew ?_)))
         (case side2 => exact HC2.out)
         rintro e w27 ⟨v345, rfl, ho0, hb⟩
         refine ⟨_, rfl, ?_⟩
         have n0_ := zK (Kd.R_below (by (with_reducible repeat (first | apply Kd.R_alloc | apply Kd.R_drewN | apply Kd.R_drew)); exact HO349.out) hb)
         have n1_ := zK (Kd.R_lower (Kd.R_newB ho0 (g := gb339) (o := .cells #[.string (⟨#[105, 110]⟩ : ByteArray), .int .i64 0, .int .i64 0, .int .i64 a1] 47 (0, 0)) (by (with_reducible repeat (first | refine zE ?_ _ | refine zF ?_ | refine zG ?_ _)); exact BK339.out)) (zN (by repeat (first | (with_reducible first | exact HB.out | apply zA | apply zB | apply zC | refine zD ?_ GE339.out) | exact HB.out))))
         have n2_ := zK (zM (g := gb339) (o := .cells #[.string (⟨#[105, 110]⟩ : ByteArray), .int .i64 0, .int .i64 0, .int .i64 a1] 47 (0, 0)) (by (with_reducible repeat (first | refine zE ?_ _ | refine zF ?_ | refine zG ?_ _)); exact BK339.out) hb)
         have n3_ := zK (zL (by repeat (first | (with_reducible first | exact HB.out | apply zA | apply zB | apply zC | refine zD ?_ GE339.out) | exact HB.out)) hb)
         clear HO349
         clear BK339
         clear HB
         have HO349 := n0_
         have HO346 := n1_
         have BK339 := n2_
         have HB := n3_
         clear n0_ n1_ n2_ n3_
         (try clear hb)
         (try clear hb2)
         (try clear hk)
         (try clear hi)
         (try clear ho0)
         refine hK.out _ _ trivial (fun hHeld => ?_)
         clear hK K
         refine norm_ (a' := ?_) ?_ ?_
         rotate_left
         ·show Act.put _ (some 35) _ = _
          simp only [Act.put, z1, z2, z3, i64_w, i32_w]
          rfl
         refine pure_ (i := 5) (N := some 9) (v := ?_) (a' := ?_) #[true, true, true, true, true, true, false] rfl rfl (by kernel_rfl) (fun _ _ _ h => h) (Or.inl ⟨by rfl, ?_⟩) ?_ ?_
         rotate_left
         ·intro w'
          go_simp
          with_reducible rfl
         rotate_left
         ·simp only [Act.put, z1, z2, z3, i64_w, i32_w]
          rfl
         exact norm_ (by simp only [putAll, Act.put, z1, z2, z3]) (hCont (v345, v348) _ ⟨(by (with_reducible repeat (first | apply Kd.R_alloc | apply Kd.R_drewN | apply Kd.R_drew)); exact Kd.R_mono HO346.out (fun _ hk => hk.2)), (by (with_reducible repeat (first | apply Kd.R_alloc | apply Kd.R_drewN | apply Kd.R_drew)); exact HO349.out), (by (with_reducible repeat (first | refine zE ?_ _ | refine zF ?_ | refine zG ?_ _)); exact BK339.out), (by repeat (first | (with_reducible first | exact HB.out | apply zA | apply zB | apply zC | refine zD ?_ GE339.out) | exact HB.out))⟩)
       rintro ⟨v345, v348⟩ w28 ⟨h0_, h1_, h2_, h3_⟩
       have n0_ : Aside0 (Kd.R k47 47 w28 w.heap.size (fun k_ => k_ ≠ gb339) v345 t344) := ⟨h0_⟩
       have n1_ : Aside0 (Kd.R (Kd.int .i64) 3 w28 w.heap.size (fun _ => True) v348 y347) := ⟨h1_⟩
       have n2_ : Aside0 (w28.heap[gb339]? = some (.cells #[.string (⟨#[105, 110]⟩ : ByteArray), .int .i64 0, .int .i64 0, .int .i64 a1] 47 (0, 0))) := ⟨h2_⟩
       have n3_ : Aside0 (Below w.heap.size w w28) := ⟨h3_⟩
       clear BK339
       clear HB
       clear h0_ h1_ h2_ h3_
       have HO346 := n0_
       have HO349 := n1_
       have BK339 := n2_
       have HB := n3_
       clear n0_ n1_ n2_ n3_
       have hHeld := trivial
       refine norm_ (a' := ?_) ?_ ?_
       rotate_left
       ·simp only [putAll, Act.put, z1, z2, z3]
        rfl
       refine pure_ (i := 6) (N := some 10) (v := ?_) (a' := ?_) #[true, true, true, true, true, true, true] rfl rfl (by kernel_rfl) (fun _ _ _ h => h) (Or.inl ⟨by rfl, ?_⟩) ?_ ?_
       rotate_left
       ·intro w'
        go_simp
        with_reducible rfl
       rotate_left
       ·simp only [Act.put, z1, z2, z3, i64_w, i32_w]
        rfl
       refine done_ (by kernel_rfl) ?_
       try go_wp2
       go_loopg [9, 41] kj3 (fun kq v9 v41 w' => ∃ (x9_2 : List (S47)) (x10_2 : List Int) (x41_2 : Int), v41 = .int .i64 x41_2 ∧ Aside0 (impl_PutInput.l0 kq l2 x9_2 x10_2 l0 (l0.length : Int) x41_2 (⟨#[105, 110]⟩ : ByteArray) 0 0 a1 = some (r1, r2)) ∧ Aside0 (kq ≤ kj3) ∧ Aside0 (Kd.R k47 47 w' w.heap.size (fun k_ => k_ ≠ gb339) v9 x9_2) ∧ Aside0 (Kd.R (Kd.int .i64) 3 w' w.heap.size (fun _ => True) v348 x10_2) ∧ Aside0 (w'.heap[gb339]? = some (.cells #[.string (⟨#[105, 110]⟩ : ByteArray), .int .i64 0, .int .i64 0, .int .i64 a1] 47 (0, 0))) ∧ Aside0 (Below w.heap.size w w'))
       case atStart => exact ⟨(t344), (y347), (0), (by first | rfl | (simp; done) | (simp [*]; done)), H', ⟨Nat.le_refl _⟩, ⟨by (with_reducible repeat (first | apply Kd.R_alloc | apply Kd.R_drewN | apply Kd.R_drew)); exact HO346.out⟩, ⟨by (with_reducible repeat (first | apply Kd.R_alloc | apply Kd.R_drewN | apply Kd.R_drew)); exact HO349.out⟩, ⟨by (with_reducible repeat (first | refine zE ?_ _ | refine zF ?_ | refine zG ?_ _)); exact BK339.out⟩, ⟨by repeat (first | (with_reducible first | exact HB.out | apply zA | apply zB | apply zC | refine zD ?_ GE339.out) | exact HB.out)⟩⟩
       case round =>
        clear H'
        try clear c1
        try clear c2
        try clear p2
        try clear c5
        try clear c6
        try clear c8
        try clear c10
        try clear c15
        try clear c17
        try clear c19
        try clear c19b0
        try clear c19b1
        try clear c20
        try clear c20b0
        try clear c20b1
        try clear hcz22_0
        try clear hcz22_1
        try clear hcz22_2
        try clear hcz22_3
        try clear hfz22_0
        try clear hfz22_1
        try clear hfz22_2
        try clear hfz22_3
        try clear p2
        obtain ⟨x9_2, x10_2, x41_2, rfl, HA, HK2, HO_9, HO_10, BK339, HB⟩ := hrel
        cases gk with
        | zero => exact absurd HA.out (by simp [impl_PutInput.l0])
        | succ k2 =>
         have H := HA.out
         clear HA
         simp only [impl_PutInput.l0] at H
         by_cases c29 : x41_2 < (l0.length : Int)
         ·rw [if_pos c29] at H
          have c29b0 : decide (x41_2 < (l0.length : Int)) = true := decide_eq_true c29
          clear c29
          by_cases c30 : 0 ≤ x41_2
          ·rw [if_pos c30] at H
           have c30b0 : decide (0 ≤ x41_2) = true := decide_eq_true c30
           clear c30
           by_cases c31 : x41_2 < (l0.length : Int)
           ·rw [if_pos c31] at H
            have c31b0 : decide (x41_2 < (l0.length : Int)) = true := decide_eq_true c31
            clear c31
            by_cases c32 : ((((rd_T47 l0 x41_2).f0).toList) == (⟨#[105, 110]⟩ : ByteArray).toList && (((rd_T47 l0 x41_2).f1) == 0 && (((rd_T47 l0 x41_2).f2) == 0 && (((rd_T47 l0 x41_2).f3) == a1)))) = true
            ·rw [if_pos c32] at H
             have c32b0 : ((((rd_T47 l0 x41_2).f0).toList) == (⟨#[105, 110]⟩ : ByteArray).toList && (((rd_T47 l0 x41_2).f1) == 0 && (((rd_T47 l0 x41_2).f2) == 0 && (((rd_T47 l0 x41_2).f3) == a1)))) = true := c32
             have c32q : (⟨#[105, 110]⟩ : ByteArray).toList = ([105, 110] : List UInt8) := by decide +kernel
             have c32l0 : ((((rd_T47 l0 x41_2).f0).toList) == ([105, 110] : List UInt8) && (((rd_T47 l0 x41_2).f1) == 0 && (((rd_T47 l0 x41_2).f2) == 0 && (((rd_T47 l0 x41_2).f3) == a1)))) = true := by rw [← c32q]; exact c32b0
             have c32l := c32l0
             simp only [Bool.and_eq_true] at c32l
             obtain ⟨c32l1, c32l2, c32l3, c32l4⟩ := c32l
             (try (have c32b1 : decide ((((rd_T47 l0 x41_2).f0).toList) = (⟨#[105, 110]⟩ : ByteArray).toList && (((rd_T47 l0 x41_2).f1) == 0 && (((rd_T47 l0 x41_2).f2) == 0 && (((rd_T47 l0 x41_2).f3) == a1)))) = true := by simpa using c32))
             (try (have c32b2 : ((((rd_T47 l0 x41_2).f0).toList) == (⟨#[105, 110]⟩ : ByteArray).toList && (((rd_T47 l0 x41_2).f1) == 0 && (((rd_T47 l0 x41_2).f2) == 0 && (((rd_T47 l0 x41_2).f3) == a1)))) = true := by simpa using c32))
             clear c32
             by_cases c33 : x41_2 < (x10_2.length : Int)
             ·rw [if_pos c33] at H
              have c33b0 : decide (x41_2 < (x10_2.length : Int)) = true := decide_eq_true c33
              clear c33
              obtain ⟨y352, hy352⟩ : ∃ y_ : List Int, y_ = (x10_2.set (x41_2 : Int).toNat (wrap64 ((l2.length : Int) - 1))) := ⟨_, rfl⟩
              replace H : (impl_PutInput.l0 k2 l2 x9_2 y352 l0 (l0.length : Int) (wrap64 (x41_2 + 1)) (⟨#[105, 110]⟩ : ByteArray) 0 0 a1) = some (r1, r2) := by first | (rw [hy352]; with_reducible exact H) | (have H2_ := (Option.bind_some _ _).symm.trans H; rw [hy352]; with_reducible exact H2_) | (have H2_ := (Option.bind_some _ _).symm.trans H; with_reducible exact H2_) | with_reducible exact H | (rw [hy352]; exact H) | exact H
              have Ny352 := zK hy352
              clear hy352
              have H' := zK H
              clear H
              have p350 : 0 ≤ (x41_2 : Int) := zo
              have q350 : x41_2 < (l0.length : Int) := zo
              obtain ⟨ad350, e350, hx350_0, hx350_1, hx350_2, hx350_3⟩ := at_T47 HR0.out x41_2 p350 q350
              cases e350
              replace hx350_0 := zt HB.out hx350_0
              replace hx350_1 := zt HB.out hx350_1
              replace hx350_2 := zt HB.out hx350_2
              replace hx350_3 := zt HB.out hx350_3
              replace p350 := eq_true p350
              replace q350 := eq_true q350
              go_wp2_with (first | ((with_reducible refine gate_dst (N := 12) rfl ?_); refine box_event ?hg (N := 12) ?hd (cs := #[.string (⟨#[]⟩ : ByteArray), .int .i64 0, .int .i64 0, .int .i64 0]) (t := 47) ?hr ?_; (case hd => rfl); (case hg => rfl); (case hr => first | (go_simp; done) | (go_simp; rfl)); intro gb351 hg w35 hbox hb; have n0_ := zK (Kd.R_below (Kd.R_elderB (by (with_reducible repeat (first | apply Kd.R_alloc | apply Kd.R_drewN | apply Kd.R_drew)); exact HO_9.out) gb351 (Nat.le_of_eq hg.symm)) hb); have n1_ := zK (Kd.R_below (by (with_reducible repeat (first | apply Kd.R_alloc | apply Kd.R_drewN | apply Kd.R_drew)); exact HO_10.out) hb); have n2_ := zK (zM (g := gb339) (o := .cells #[.string (⟨#[105, 110]⟩ : ByteArray), .int .i64 0, .int .i64 0, .int .i64 a1] 47 (0, 0)) (by (with_reducible repeat (first | refine zE ?_ _ | refine zF ?_ | refine zG ?_ _)); exact BK339.out) hb); have n3_ := zK (zL (by repeat (first | (with_reducible first | exact HB.out | apply zA | apply zB | apply zC | refine zD ?_ GE339.out) | exact HB.out)) hb); have n4_ := zK (hbox); have n5_ := zK ((by rw [hg]; exact (zN (by repeat (first | (with_reducible first | exact HB.out | apply zA | apply zB | apply zC | refine zD ?_ GE339.out) | exact HB.out))) : w.heap.size ≤ gb351)); have n6_ := zK ((by rw [hg]; exact (zN (by repeat (first | (with_reducible first | exact HB.out | apply zA | apply zB | apply zC | refine zD ?_ GE339.out) | exact HB.out))) : w.heap.size ≤ gb351)); have n7_ := zK ((by rw [hg]; exact Nat.ne_of_lt (blk_lt (g := gb339) (o := .cells #[.string (⟨#[105, 110]⟩ : ByteArray), .int .i64 0, .int .i64 0, .int .i64 a1] 47 (0, 0)) (by (with_reducible repeat (first | refine zE ?_ _ | refine zF ?_ | refine zG ?_ _)); exact BK339.out)) : gb339 ≠ gb351)); have n8_ := zK ((by rw [hg]; exact Nat.ne_of_gt (blk_lt (g := gb339) (o := .cells #[.string (⟨#[105, 110]⟩ : ByteArray), .int .i64 0, .int .i64 0, .int .i64 a1] 47 (0, 0)) (by (with_reducible repeat (first | refine zE ?_ _ | refine zF ?_ | refine zG ?_ _)); exact BK339.out)) : gb351 ≠ gb339)); clear HO_9; clear HO_10; clear BK339; clear HB; have HO_9 := n0_; have HO_10 := n1_; have BK339 := n2_; have HB := n3_; have BK351 := n4_; have GW351 := n5_; have GE351 := n6_; have NB339_351 := n7_; have NB351_339 := n8_; clear n0_ n1_ n2_ n3_ n4_ n5_ n6_ n7_ n8_; clear hb hbox hg; have hnb36 := NB351_339.out; have hnc36 := NB339_351.out; have hcz37_0 : w35.cell? ⟨gb351, 0, none⟩ = some (.string (⟨#[]⟩ : ByteArray)) := (zI BK351.out 0).trans rfl; have hcz37_1 : w35.cell? ⟨gb351, 1, none⟩ = some (.int .i64 0) := (zI BK351.out 1).trans rfl; have hcz37_2 : w35.cell? ⟨gb351, 2, none⟩ = some (.int .i64 0) := (zI BK351.out 2).trans rfl; have hcz37_3 : w35.cell? ⟨gb351, 3, none⟩ = some (.int .i64 0) := (zI BK351.out 3).trans rfl; have hfz37_0 := zH BK351.out 0; have hfz37_1 := zH BK351.out 1; have hfz37_2 := zH BK351.out 2; have hfz37_3 := zH BK351.out 3) | ((with_reducible refine gate_store (t := 47) (p := 12) rfl ?_); refine store_event (t := 47) (p := 12) (v := ?vo_w38) (w1 := ((((w35.setCell ⟨gb351, 0, none⟩ (.string ((rd_T47 l0 x41_2).f0))).setCell ⟨gb351, 1, none⟩ (.int .i64 ((rd_T47 l0 x41_2).f1))).setCell ⟨gb351, 2, none⟩ (.int .i64 ((rd_T47 l0 x41_2).f2))).setCell ⟨gb351, 3, none⟩ (.int .i64 ((rd_T47 l0 x41_2).f3)))) ?hg ?ho ?hn ?hr ?_; (case ho => rfl); (case hg => rfl); (case hn => rfl); (case hr => first | (go_simp; done) | (go_simp; rfl)); intro w38 hw; have n0_ : Aside0 (Kd.R k47 47 w38 w.heap.size (fun k_ => k_ ≠ gb339 ∧ k_ ≠ gb351) u9 x9_2) := ⟨(by rw [hw]; exact (by (with_reducible repeat (first | apply Kd.R_alloc | apply Kd.R_drewN | apply Kd.R_drew)); exact Kd.R_mono (Kd.R_far (p := ⟨gb351, 3, none⟩) (Kd.R_far (p := ⟨gb351, 2, none⟩) (Kd.R_far (p := ⟨gb351, 1, none⟩) (Kd.R_far (p := ⟨gb351, 0, none⟩) (Kd.R_mono HO_9.out (fun k_ hk => (⟨hk, hk.2⟩ : _ ∧ k_ ≠ gb351))) (fun _ hk => hk.2) (.string ((rd_T47 l0 x41_2).f0))) (fun _ hk => hk.2) (.int .i64 ((rd_T47 l0 x41_2).f1))) (fun _ hk => hk.2) (.int .i64 ((rd_T47 l0 x41_2).f2))) (fun _ hk => hk.2) (.int .i64 ((rd_T47 l0 x41_2).f3))) (fun _ hk => ⟨hk.1.1, hk.1.2⟩)))⟩; have n1_ : Aside0 (Kd.R (Kd.int .i64) 3 w38 w.heap.size (fun _ => True) v348 x10_2) := ⟨(by rw [hw]; exact (by (with_reducible repeat (first | apply Kd.R_alloc | apply Kd.R_drewN | apply Kd.R_drew)); exact Kd.R_mono (Kd.R_far (p := ⟨gb351, 3, none⟩) (Kd.R_far (p := ⟨gb351, 2, none⟩) (Kd.R_far (p := ⟨gb351, 1, none⟩) (Kd.R_far (p := ⟨gb351, 0, none⟩) (Kd.R_types HO_10.out BK351.out (by decide)) (fun _ hk => hk.2) (.string ((rd_T47 l0 x41_2).f0))) (fun _ hk => hk.2) (.int .i64 ((rd_T47 l0 x41_2).f1))) (fun _ hk => hk.2) (.int .i64 ((rd_T47 l0 x41_2).f2))) (fun _ hk => hk.2) (.int .i64 ((rd_T47 l0 x41_2).f3))) (fun _ hk => trivial)))⟩; have n2_ : Aside0 (w38.heap[gb339]? = some (.cells #[.string (⟨#[105, 110]⟩ : ByteArray), .int .i64 0, .int .i64 0, .int .i64 a1] 47 (0, 0))) := ⟨(by rw [hw]; exact (by (with_reducible repeat (first | refine zE ?_ _ | refine zF ?_ | refine zG ?_ _)); refine blk_far ?_ NB339_351.out _; (with_reducible repeat (first | refine zE ?_ _ | refine zF ?_ | refine zG ?_ _)); refine blk_far ?_ NB339_351.out _; (with_reducible repeat (first | refine zE ?_ _ | refine zF ?_ | refine zG ?_ _)); refine blk_far ?_ NB339_351.out _; (with_reducible repeat (first | refine zE ?_ _ | refine zF ?_ | refine zG ?_ _)); refine blk_far ?_ NB339_351.out _; (with_reducible repeat (first | refine zE ?_ _ | refine zF ?_ | refine zG ?_ _)); exact BK339.out))⟩; have n3_ : Aside0 (w38.heap[gb351]? = some (.cells #[.string ((rd_T47 l0 x41_2).f0), .int .i64 ((rd_T47 l0 x41_2).f1), .int .i64 ((rd_T47 l0 x41_2).f2), .int .i64 ((rd_T47 l0 x41_2).f3)] 47 (0, 0))) := ⟨(by rw [hw]; exact (by (with_reducible repeat (first | refine zE ?_ _ | refine zF ?_ | refine zG ?_ _)); refine blk_put (cs := #[.string ((rd_T47 l0 x41_2).f0), .int .i64 ((rd_T47 l0 x41_2).f1), .int .i64 ((rd_T47 l0 x41_2).f2), .int .i64 0]) ?_ 3 _ rfl; (with_reducible repeat (first | refine zE ?_ _ | refine zF ?_ | refine zG ?_ _)); refine blk_put (cs := #[.string ((rd_T47 l0 x41_2).f0), .int .i64 ((rd_T47 l0 x41_2).f1), .int .i64 0, .int .i64 0]) ?_ 2 _ rfl; (with_reducible repeat (first | refine zE ?_ _ | refine zF ?_ | refine zG ?_ _)); refine blk_put (cs := #[.string ((rd_T47 l0 x41_2).f0), .int .i64 0, .int .i64 0, .int .i64 0]) ?_ 1 _ rfl; (with_reducible repeat (first | refine zE ?_ _ | refine zF ?_ | refine zG ?_ _)); refine blk_put (cs := #[.string (⟨#[]⟩ : ByteArray), .int .i64 0, .int .i64 0, .int .i64 0]) ?_ 0 _ rfl; (with_reducible repeat (first | refine zE ?_ _ | refine zF ?_ | refine zG ?_ _)); exact BK351.out))⟩; have n4_ : Aside0 (Below w.heap.size w w38) := ⟨(by rw [hw]; exact (by repeat (first | (with_reducible first | exact HB.out | apply zA | apply zB | apply zC | refine zD ?_ GE339.out | refine zD ?_ GE351.out) | exact HB.out)))⟩; clear hw; clear HO_9; clear HO_10; clear BK339; clear BK351; clear HB; have HO_9 := n0_; have HO_10 := n1_; have BK339 := n2_; have BK351 := n3_; have HB := n4_; clear n0_ n1_ n2_ n3_ n4_; have hcz39_0 : w38.cell? ⟨gb351, 0, none⟩ = some (.string ((rd_T47 l0 x41_2).f0)) := (zI BK351.out 0).trans rfl; have hcz39_1 : w38.cell? ⟨gb351, 1, none⟩ = some (.int .i64 ((rd_T47 l0 x41_2).f1)) := (zI BK351.out 1).trans rfl; have hcz39_2 : w38.cell? ⟨gb351, 2, none⟩ = some (.int .i64 ((rd_T47 l0 x41_2).f2)) := (zI BK351.out 2).trans rfl; have hcz39_3 : w38.cell? ⟨gb351, 3, none⟩ = some (.int .i64 ((rd_T47 l0 x41_2).f3)) := (zI BK351.out 3).trans rfl; have hfz39_0 := zH BK351.out 0; have hfz39_1 := zH BK351.out 1; have hfz39_2 := zH BK351.out 2; have hfz39_3 := zH BK351.out 3; have hcz40_0 : w38.cell? ⟨gb339, 0, none⟩ = some (.string (⟨#[105, 110]⟩ : ByteArray)) := (zI BK339.out 0).trans rfl; have hcz40_1 : w38.cell? ⟨gb339, 1, none⟩ = some (.int .i64 0) := (zI BK339.out 1).trans rfl; have hcz40_2 : w38.cell? ⟨gb339, 2, none⟩ = some (.int .i64 0) := (zI BK339.out 2).trans rfl; have hcz40_3 : w38.cell? ⟨gb339, 3, none⟩ = some (.int .i64 a1) := (zI BK339.out 3).trans rfl; have hfz40_0 := zH BK339.out 0; have hfz40_1 := zH BK339.out 1; have hfz40_2 := zH BK339.out 2; have hfz40_3 := zH BK339.out 3; have p34 : 0 ≤ (x41_2 : Int) := zo; have q34 : (x41_2 : Int) < ((x10_2.length : Int) : Int) := zo; obtain ⟨go34, co34, eo34, gb34, gl34, cl34, HG34⟩ := Kd.R_form HO_10.out (by omega); (first | cases eo34 | (injection eo34 with ea_ en_ ec_; (first | subst ea_ | (injection ea_ with ea_; subst ea_)); subst ec_; clear en_)); have GB34 := zK gb34; have GG34 := zK HG34; clear gb34 gl34 HG34; obtain ⟨hx34_0, hf34_0⟩ := Kd.R_celln 0 HO_10.out (x41_2 : Int) p34 q34; replace p34 := eq_true p34; replace q34 := eq_true q34; obtain ⟨hy41_, hz41_⟩ := Kd.R_celln 0 HO_10.out (x41_2 : Int) (zo) (zo); have HP41 := Kd.R_putg HO_10.out (x41_2 : Int) (wrap64 ((l2.length : Int) - 1))) | ((with_reducible refine gate_store (t := 3) (p := 54) rfl ?_); refine store_event (t := 3) (p := 54) (v := ?vo_w42) (w1 := (w38.setCell ⟨go34, (x41_2 : Int).toNat, none⟩ (.int .i64 (wrap64 ((l2.length : Int) - 1))))) ?hg ?ho ?hn ?hr ?_; (case ho => rfl); (case hg => rfl); (case hn => rfl); (case hr => first | (go_simp; done) | (go_simp; rfl)); intro w42 hw; have hg : w38.grownBy w42 (some go34) := (by rw [hw]; exact HP41.2); have hp_ : Kd.R (Kd.int .i64) 3 w42 w.heap.size (fun _ => True) (.slice (some ⟨go34, 0, none⟩) x10_2.length co34) y352 := (by rw [hw, Ny352.out]; exact HP41.1); clear HP41; have n0_ := zK (Kd.R_over' (v := (.slice (some ⟨go34, 0, none⟩) x10_2.length co34)) (by (with_reducible repeat (first | apply Kd.R_alloc | apply Kd.R_drewN | apply Kd.R_drew)); exact HO_9.out) (Kd.R_typed HO_10.out) (by decide) hg); have n1_ := zK (hp_); have n2_ := zK (blk_grown (g := gb339) (o := .cells #[.string (⟨#[105, 110]⟩ : ByteArray), .int .i64 0, .int .i64 0, .int .i64 a1] 47 (0, 0)) (by (with_reducible repeat (first | refine zE ?_ _ | refine zF ?_ | refine zG ?_ _)); exact BK339.out) hg (Kd.R_ne HO_10.out BK339.out (by decide))); have n3_ := zK (blk_grown (g := gb351) (o := .cells #[.string ((rd_T47 l0 x41_2).f0), .int .i64 ((rd_T47 l0 x41_2).f1), .int .i64 ((rd_T47 l0 x41_2).f2), .int .i64 ((rd_T47 l0 x41_2).f3)] 47 (0, 0)) (by (with_reducible repeat (first | refine zE ?_ _ | refine zF ?_ | refine zG ?_ _)); exact BK351.out) hg (Kd.R_ne HO_10.out BK351.out (by decide))); have n4_ := zK ((by rw [hw]; exact zD (HB.out) GB34.out : Below w.heap.size w w42)); clear HO_9; clear HO_10; clear BK339; clear BK351; clear HB; have HO_9 := n0_; have HO_10 := n1_; have BK339 := n2_; have BK351 := n3_; have HB := n4_; clear n0_ n1_ n2_ n3_ n4_; clear hg hw hp_))
              go_roundg k2
              case measure => have := HJ3.out; have := HK2.out; omega
              case rel => exact ⟨(x9_2), (y352), (wrap64 (x41_2 + 1)), (by first | rfl | (simp; done) | (simp [*]; done)), H', ⟨by have := HJ3.out; have := HK2.out; omega⟩, ⟨by (with_reducible repeat (first | apply Kd.R_alloc | apply Kd.R_drewN | apply Kd.R_drew)); exact Kd.R_mono HO_9.out (fun _ hk => hk.1)⟩, ⟨by (with_reducible repeat (first | apply Kd.R_alloc | apply Kd.R_drewN | apply Kd.R_drew)); exact HO_10.out⟩, ⟨by (with_reducible repeat (first | refine zE ?_ _ | refine zF ?_ | refine zG ?_ _)); exact BK339.out⟩, ⟨by repeat (first | (with_reducible first | exact HB.out | apply zA | apply zB | apply zC | refine zD ?_ GE339.out | refine zD ?_ GE351.out) | exact HB.out)⟩⟩
             ·rw [if_neg c33] at H
              exact absurd H (by simp)
            ·rw [if_neg c32] at H
             have c32b0 : ((((rd_T47 l0 x41_2).f0).toList) == (⟨#[105, 110]⟩ : ByteArray).toList && (((rd_T47 l0 x41_2).f1) == 0 && (((rd_T47 l0 x41_2).f2) == 0 && (((rd_T47 l0 x41_2).f3) == a1)))) = false := by simpa using c32
             have c32q : (⟨#[105, 110]⟩ : ByteArray).toList = ([105, 110] : List UInt8) := by decide +kernel
             have c32l0 : ((((rd_T47 l0 x41_2).f0).toList) == ([105, 110] : List UInt8) && (((rd_T47 l0 x41_2).f1) == 0 && (((rd_T47 l0 x41_2).f2) == 0 && (((rd_T47 l0 x41_2).f3) == a1)))) = false := by rw [← c32q]; exact c32b0
             (try (have c32b1 : decide ((((rd_T47 l0 x41_2).f0).toList) = (⟨#[105, 110]⟩ : ByteArray).toList && (((rd_T47 l0 x41_2).f1) == 0 && (((rd_T47 l0 x41_2).f2) == 0 && (((rd_T47 l0 x41_2).f3) == a1)))) = false := by simpa using c32))
             (try (have c32b2 : ((((rd_T47 l0 x41_2).f0).toList) == (⟨#[105, 110]⟩ : ByteArray).toList && (((rd_T47 l0 x41_2).f1) == 0 && (((rd_T47 l0 x41_2).f2) == 0 && (((rd_T47 l0 x41_2).f3) == a1)))) = false := by simpa using c32))
             (try (have c32b3 : ¬ ((((rd_T47 l0 x41_2).f0).toList) = (⟨#[105, 110]⟩ : ByteArray).toList && (((rd_T47 l0 x41_2).f1) == 0 && (((rd_T47 l0 x41_2).f2) == 0 && (((rd_T47 l0 x41_2).f3) == a1)))) := by simpa using c32))
             clear c32
             by_cases c43 : x41_2 < (x10_2.length : Int)
             ·rw [if_pos c43] at H
              have c43b0 : decide (x41_2 < (x10_2.length : Int)) = true := decide_eq_true c43
              clear c43
              obtain ⟨y353, hy353⟩ : ∃ y_ : List Int, y_ = (x10_2.set (x41_2 : Int).toNat (x9_2.length : Int)) := ⟨_, rfl⟩
              replace H : ((impl_Node_renamed.f k2 ((rd_T47 l0 x41_2).f0) ((rd_T47 l0 x41_2).f1) ((rd_T47 l0 x41_2).f2) ((rd_T47 l0 x41_2).f3) y353).bind fun bt354 => (if x9_2.length < 3518437208883 then (impl_PutInput.l0 k2 l2 (x9_2 ++ [(⟨bt354.1, bt354.2.1, bt354.2.2.1, bt354.2.2.2⟩ : S47)]) y353 l0 (l0.length : Int) (wrap64 (x41_2 + 1)) (⟨#[105, 110]⟩ : ByteArray) 0 0 a1) else (none))) = some (r1, r2) := by first | (rw [hy353]; with_reducible exact H) | (have H2_ := (Option.bind_some _ _).symm.trans H; rw [hy353]; with_reducible exact H2_) | (have H2_ := (Option.bind_some _ _).symm.trans H; with_reducible exact H2_) | with_reducible exact H | (rw [hy353]; exact H) | exact H
              have Ny353 := zK hy353
              clear hy353
              replace H := Option.bind_eq_some_iff.mp H
              obtain ⟨⟨t354, t355, t356, t357⟩, A450, H⟩ := H
              replace H : (if x9_2.length < 3518437208883 then (impl_PutInput.l0 k2 l2 (x9_2 ++ [(⟨t354, t355, t356, t357⟩ : S47)]) y353 l0 (l0.length : Int) (wrap64 (x41_2 + 1)) (⟨#[105, 110]⟩ : ByteArray) 0 0 a1) else (none)) = some (r1, r2) := H
              have A45 := zK A450
              clear A450
              by_cases c46 : x9_2.length < 3518437208883
              ·rw [if_pos c46] at H
               have LMc46 := zK c46
               clear c46
               obtain ⟨y358, hy358⟩ : ∃ y_ : List (S47), y_ = (x9_2 ++ [(⟨t354, t355, t356, t357⟩ : S47)]) := ⟨_, rfl⟩
               replace H : (impl_PutInput.l0 k2 l2 y358 y353 l0 (l0.length : Int) (wrap64 (x41_2 + 1)) (⟨#[105, 110]⟩ : ByteArray) 0 0 a1) = some (r1, r2) := by first | (rw [hy358]; with_reducible exact H) | (have H2_ := (Option.bind_some _ _).symm.trans H; rw [hy358]; with_reducible exact H2_) | (have H2_ := (Option.bind_some _ _).symm.trans H; with_reducible exact H2_) | with_reducible exact H | (rw [hy358]; exact H) | exact H
               have Ny358 := zK hy358
               clear hy358
               have H' := zK H
               clear H
               have p350 : 0 ≤ (x41_2 : Int) := zo
               have q350 : x41_2 < (l0.length : Int) := zo
               obtain ⟨ad350, e350, hx350_0, hx350_1, hx350_2, hx350_3⟩ := at_T47 HR0.out x41_2 p350 q350
               cases e350
               replace hx350_0 := zt HB.out hx350_0
               replace hx350_1 := zt HB.out hx350_1
               replace hx350_2 := zt HB.out hx350_2
               replace hx350_3 := zt HB.out hx350_3
               replace p350 := eq_true p350
               replace q350 := eq_true q350
               go_wp2_with (first | ((with_reducible refine gate_dst (N := 12) rfl ?_); refine box_event ?hg (N := 12) ?hd (cs := #[.string (⟨#[]⟩ : ByteArray), .int .i64 0, .int .i64 0, .int .i64 0]) (t := 47) ?hr ?_; (case hd => rfl); (case hg => rfl); (case hr => first | (go_simp; done) | (go_simp; rfl)); intro gb351 hg w47 hbox hb; have n0_ := zK (Kd.R_below (Kd.R_elderB (by (with_reducible repeat (first | apply Kd.R_alloc | apply Kd.R_drewN | apply Kd.R_drew)); exact HO_9.out) gb351 (Nat.le_of_eq hg.symm)) hb); have n1_ := zK (Kd.R_below (by (with_reducible repeat (first | apply Kd.R_alloc | apply Kd.R_drewN | apply Kd.R_drew)); exact HO_10.out) hb); have n2_ := zK (zM (g := gb339) (o := .cells #[.string (⟨#[105, 110]⟩ : ByteArray), .int .i64 0, .int .i64 0, .int .i64 a1] 47 (0, 0)) (by (with_reducible repeat (first | refine zE ?_ _ | refine zF ?_ | refine zG ?_ _)); exact BK339.out) hb); have n3_ := zK (zL (by repeat (first | (with_reducible first | exact HB.out | apply zA | apply zB | apply zC | refine zD ?_ GE339.out) | exact HB.out)) hb); have n4_ := zK (hbox); have n5_ := zK ((by rw [hg]; exact (zN (by repeat (first | (with_reducible first | exact HB.out | apply zA | apply zB | apply zC | refine zD ?_ GE339.out) | exact HB.out))) : w.heap.size ≤ gb351)); have n6_ := zK ((by rw [hg]; exact (zN (by repeat (first | (with_reducible first | exact HB.out | apply zA | apply zB | apply zC | refine zD ?_ GE339.out) | exact HB.out))) : w.heap.size ≤ gb351)); have n7_ := zK ((by rw [hg]; exact Nat.ne_of_lt (blk_lt (g := gb339) (o := .cells #[.string (⟨#[105, 110]⟩ : ByteArray), .int .i64 0, .int .i64 0, .int .i64 a1] 47 (0, 0)) (by (with_reducible repeat (first | refine zE ?_ _ | refine zF ?_ | refine zG ?_ _)); exact BK339.out)) : gb339 ≠ gb351)); have n8_ := zK ((by rw [hg]; exact Nat.ne_of_gt (blk_lt (g := gb339) (o := .cells #[.string (⟨#[105, 110]⟩ : ByteArray), .int .i64 0, .int .i64 0, .int .i64 a1] 47 (0, 0)) (by (with_reducible repeat (first | refine zE ?_ _ | refine zF ?_ | refine zG ?_ _)); exact BK339.out)) : gb351 ≠ gb339)); clear HO_9; clear HO_10; clear BK339; clear HB; have HO_9 := n0_; have HO_10 := n1_; have BK339 := n2_; have HB := n3_; have BK351 := n4_; have GW351 := n5_; have GE351 := n6_; have NB339_351 := n7_; have NB351_339 := n8_; clear n0_ n1_ n2_ n3_ n4_ n5_ n6_ n7_ n8_; clear hb hbox hg; have hnb48 := NB351_339.out; have hnc48 := NB339_351.out; have hcz49_0 : w47.cell? ⟨gb351, 0, none⟩ = some (.string (⟨#[]⟩ : ByteArray)) := (zI BK351.out 0).trans rfl; have hcz49_1 : w47.cell? ⟨gb351, 1, none⟩ = some (.int .i64 0) := (zI BK351.out 1).trans rfl; have hcz49_2 : w47.cell? ⟨gb351, 2, none⟩ = some (.int .i64 0) := (zI BK351.out 2).trans rfl; have hcz49_3 : w47.cell? ⟨gb351, 3, none⟩ = some (.int .i64 0) := (zI BK351.out 3).trans rfl; have hfz49_0 := zH BK351.out 0; have hfz49_1 := zH BK351.out 1; have hfz49_2 := zH BK351.out 2; have hfz49_3 := zH BK351.out 3) | ((with_reducible refine gate_store (t := 47) (p := 12) rfl ?_); refine store_event (t := 47) (p := 12) (v := ?vo_w50) (w1 := ((((w47.setCell ⟨gb351, 0, none⟩ (.string ((rd_T47 l0 x41_2).f0))).setCell ⟨gb351, 1, none⟩ (.int .i64 ((rd_T47 l0 x41_2).f1))).setCell ⟨gb351, 2, none⟩ (.int .i64 ((rd_T47 l0 x41_2).f2))).setCell ⟨gb351, 3, none⟩ (.int .i64 ((rd_T47 l0 x41_2).f3)))) ?hg ?ho ?hn ?hr ?_; (case ho => rfl); (case hg => rfl); (case hn => rfl); (case hr => first | (go_simp; done) | (go_simp; rfl)); intro w50 hw; have n0_ : Aside0 (Kd.R k47 47 w50 w.heap.size (fun k_ => k_ ≠ gb339 ∧ k_ ≠ gb351) u9 x9_2) := ⟨(by rw [hw]; exact (by (with_reducible repeat (first | apply Kd.R_alloc | apply Kd.R_drewN | apply Kd.R_drew)); exact Kd.R_mono (Kd.R_far (p := ⟨gb351, 3, none⟩) (Kd.R_far (p := ⟨gb351, 2, none⟩) (Kd.R_far (p := ⟨gb351, 1, none⟩) (Kd.R_far (p := ⟨gb351, 0, none⟩) (Kd.R_mono HO_9.out (fun k_ hk => (⟨hk, hk.2⟩ : _ ∧ k_ ≠ gb351))) (fun _ hk => hk.2) (.string ((rd_T47 l0 x41_2).f0))) (fun _ hk => hk.2) (.int .i64 ((rd_T47 l0 x41_2).f1))) (fun _ hk => hk.2) (.int .i64 ((rd_T47 l0 x41_2).f2))) (fun _ hk => hk.2) (.int .i64 ((rd_T47 l0 x41_2).f3))) (fun _ hk => ⟨hk.1.1, hk.1.2⟩)))⟩; have n1_ : Aside0 (Kd.R (Kd.int .i64) 3 w50 w.heap.size (fun _ => True) v348 x10_2) := ⟨(by rw [hw]; exact (by (with_reducible repeat (first | apply Kd.R_alloc | apply Kd.R_drewN | apply Kd.R_drew)); exact Kd.R_mono (Kd.R_far (p := ⟨gb351, 3, none⟩) (Kd.R_far (p := ⟨gb351, 2, none⟩) (Kd.R_far (p := ⟨gb351, 1, none⟩) (Kd.R_far (p := ⟨gb351, 0, none⟩) (Kd.R_types HO_10.out BK351.out (by decide)) (fun _ hk => hk.2) (.string ((rd_T47 l0 x41_2).f0))) (fun _ hk => hk.2) (.int .i64 ((rd_T47 l0 x41_2).f1))) (fun _ hk => hk.2) (.int .i64 ((rd_T47 l0 x41_2).f2))) (fun _ hk => hk.2) (.int .i64 ((rd_T47 l0 x41_2).f3))) (fun _ hk => trivial)))⟩; have n2_ : Aside0 (w50.heap[gb339]? = some (.cells #[.string (⟨#[105, 110]⟩ : ByteArray), .int .i64 0, .int .i64 0, .int .i64 a1] 47 (0, 0))) := ⟨(by rw [hw]; exact (by (with_reducible repeat (first | refine zE ?_ _ | refine zF ?_ | refine zG ?_ _)); refine blk_far ?_ NB339_351.out _; (with_reducible repeat (first | refine zE ?_ _ | refine zF ?_ | refine zG ?_ _)); refine blk_far ?_ NB339_351.out _; (with_reducible repeat (first | refine zE ?_ _ | refine zF ?_ | refine zG ?_ _)); refine blk_far ?_ NB339_351.out _; (with_reducible repeat (first | refine zE ?_ _ | refine zF ?_ | refine zG ?_ _)); refine blk_far ?_ NB339_351.out _; (with_reducible repeat (first | refine zE ?_ _ | refine zF ?_ | refine zG ?_ _)); exact BK339.out))⟩; have n3_ : Aside0 (w50.heap[gb351]? = some (.cells #[.string ((rd_T47 l0 x41_2).f0), .int .i64 ((rd_T47 l0 x41_2).f1), .int .i64 ((rd_T47 l0 x41_2).f2), .int .i64 ((rd_T47 l0 x41_2).f3)] 47 (0, 0))) := ⟨(by rw [hw]; exact (by (with_reducible repeat (first | refine zE ?_ _ | refine zF ?_ | refine zG ?_ _)); refine blk_put (cs := #[.string ((rd_T47 l0 x41_2).f0), .int .i64 ((rd_T47 l0 x41_2).f1), .int .i64 ((rd_T47 l0 x41_2).f2), .int .i64 0]) ?_ 3 _ rfl; (with_reducible repeat (first | refine zE ?_ _ | refine zF ?_ | refine zG ?_ _)); refine blk_put (cs := #[.string ((rd_T47 l0 x41_2).f0), .int .i64 ((rd_T47 l0 x41_2).f1), .int .i64 0, .int .i64 0]) ?_ 2 _ rfl; (with_reducible repeat (first | refine zE ?_ _ | refine zF ?_ | refine zG ?_ _)); refine blk_put (cs := #[.string ((rd_T47 l0 x41_2).f0), .int .i64 0, .int .i64 0, .int .i64 0]) ?_ 1 _ rfl; (with_reducible repeat (first | refine zE ?_ _ | refine zF ?_ | refine zG ?_ _)); refine blk_put (cs := #[.string (⟨#[]⟩ : ByteArray), .int .i64 0, .int .i64 0, .int .i64 0]) ?_ 0 _ rfl; (with_reducible repeat (first | refine zE ?_ _ | refine zF ?_ | refine zG ?_ _)); exact BK351.out))⟩; have n4_ : Aside0 (Below w.heap.size w w50) := ⟨(by rw [hw]; exact (by repeat (first | (with_reducible first | exact HB.out | apply zA | apply zB | apply zC | refine zD ?_ GE339.out | refine zD ?_ GE351.out) | exact HB.out)))⟩; clear hw; clear HO_9; clear HO_10; clear BK339; clear BK351; clear HB; have HO_9 := n0_; have HO_10 := n1_; have BK339 := n2_; have BK351 := n3_; have HB := n4_; clear n0_ n1_ n2_ n3_ n4_; have hcz51_0 : w50.cell? ⟨gb351, 0, none⟩ = some (.string ((rd_T47 l0 x41_2).f0)) := (zI BK351.out 0).trans rfl; have hcz51_1 : w50.cell? ⟨gb351, 1, none⟩ = some (.int .i64 ((rd_T47 l0 x41_2).f1)) := (zI BK351.out 1).trans rfl; have hcz51_2 : w50.cell? ⟨gb351, 2, none⟩ = some (.int .i64 ((rd_T47 l0 x41_2).f2)) := (zI BK351.out 2).trans rfl; have hcz51_3 : w50.cell? ⟨gb351, 3, none⟩ = some (.int .i64 ((rd_T47 l0 x41_2).f3)) := (zI BK351.out 3).trans rfl; have hfz51_0 := zH BK351.out 0; have hfz51_1 := zH BK351.out 1; have hfz51_2 := zH BK351.out 2; have hfz51_3 := zH BK351.out 3; have hcz52_0 : w50.cell? ⟨gb339, 0, none⟩ = some (.string (⟨#[105, 110]⟩ : ByteArray)) := (zI BK339.out 0).trans rfl; have hcz52_1 : w50.cell? ⟨gb339, 1, none⟩ = some (.int .i64 0) := (zI BK339.out 1).trans rfl; have hcz52_2 : w50.cell? ⟨gb339, 2, none⟩ = some (.int .i64 0) := (zI BK339.out 2).trans rfl; have hcz52_3 : w50.cell? ⟨gb339, 3, none⟩ = some (.int .i64 a1) := (zI BK339.out 3).trans rfl; have hfz52_0 := zH BK339.out 0; have hfz52_1 := zH BK339.out 1; have hfz52_2 := zH BK339.out 2; have hfz52_3 := zH BK339.out 3; obtain ⟨Ao53, co53, eo53⟩ := Kd.R_slice HO_9.out; subst eo53; have p44 : 0 ≤ (x41_2 : Int) := zo; have q44 : (x41_2 : Int) < ((x10_2.length : Int) : Int) := zo; obtain ⟨go44, co44, eo44, gb44, gl44, cl44, HG44⟩ := Kd.R_form HO_10.out (by omega); (first | cases eo44 | (injection eo44 with ea_ en_ ec_; (first | subst ea_ | (injection ea_ with ea_; subst ea_)); subst ec_; clear en_)); have GB44 := zK gb44; have GG44 := zK HG44; clear gb44 gl44 HG44; obtain ⟨hx44_0, hf44_0⟩ := Kd.R_celln 0 HO_10.out (x41_2 : Int) p44 q44; replace p44 := eq_true p44; replace q44 := eq_true q44; obtain ⟨hy54_, hz54_⟩ := Kd.R_celln 0 HO_10.out (x41_2 : Int) (zo) (zo); have HP54 := Kd.R_putg HO_10.out (x41_2 : Int) (x9_2.length : Int)) | ((with_reducible refine gate_store (t := 3) (p := 59) rfl ?_); refine store_event (t := 3) (p := 59) (v := ?vo_w55) (w1 := (w50.setCell ⟨go44, (x41_2 : Int).toNat, none⟩ (.int .i64 (x9_2.length : Int)))) ?hg ?ho ?hn ?hr ?_; (case ho => rfl); (case hg => rfl); (case hn => rfl); (case hr => first | (go_simp; done) | (go_simp; rfl)); intro w55 hw; have hg : w50.grownBy w55 (some go44) := (by rw [hw]; exact HP54.2); have hp_ : Kd.R (Kd.int .i64) 3 w55 w.heap.size (fun _ => True) (.slice (some ⟨go44, 0, none⟩) x10_2.length co44) y353 := (by rw [hw, Ny353.out]; exact HP54.1); clear HP54; have n0_ := zK (Kd.R_over' (v := (.slice (some ⟨go44, 0, none⟩) x10_2.length co44)) (by (with_reducible repeat (first | apply Kd.R_alloc | apply Kd.R_drewN | apply Kd.R_drew)); exact HO_9.out) (Kd.R_typed HO_10.out) (by decide) hg); have n1_ := zK (hp_); have n2_ := zK (blk_grown (g := gb339) (o := .cells #[.string (⟨#[105, 110]⟩ : ByteArray), .int .i64 0, .int .i64 0, .int .i64 a1] 47 (0, 0)) (by (with_reducible repeat (first | refine zE ?_ _ | refine zF ?_ | refine zG ?_ _)); exact BK339.out) hg (Kd.R_ne HO_10.out BK339.out (by decide))); have n3_ := zK (blk_grown (g := gb351) (o := .cells #[.string ((rd_T47 l0 x41_2).f0), .int .i64 ((rd_T47 l0 x41_2).f1), .int .i64 ((rd_T47 l0 x41_2).f2), .int .i64 ((rd_T47 l0 x41_2).f3)] 47 (0, 0)) (by (with_reducible repeat (first | refine zE ?_ _ | refine zF ?_ | refine zG ?_ _)); exact BK351.out) hg (Kd.R_ne HO_10.out BK351.out (by decide))); have n4_ := zK ((by rw [hw]; exact zD (HB.out) GB44.out : Below w.heap.size w w55)); clear HO_9; clear HO_10; clear BK339; clear BK351; clear HB; have HO_9 := n0_; have HO_10 := n1_; have BK339 := n2_; have BK351 := n3_; have HB := n4_; clear n0_ n1_ n2_ n3_ n4_; clear hg hw hp_; have hcz56_0 : w55.cell? ⟨gb351, 0, none⟩ = some (.string ((rd_T47 l0 x41_2).f0)) := (zI BK351.out 0).trans rfl; have hcz56_1 : w55.cell? ⟨gb351, 1, none⟩ = some (.int .i64 ((rd_T47 l0 x41_2).f1)) := (zI BK351.out 1).trans rfl; have hcz56_2 : w55.cell? ⟨gb351, 2, none⟩ = some (.int .i64 ((rd_T47 l0 x41_2).f2)) := (zI BK351.out 2).trans rfl; have hcz56_3 : w55.cell? ⟨gb351, 3, none⟩ = some (.int .i64 ((rd_T47 l0 x41_2).f3)) := (zI BK351.out 3).trans rfl; have hfz56_0 := zH BK351.out 0; have hfz56_1 := zH BK351.out 1; have hfz56_2 := zH BK351.out 2; have hfz56_3 := zH BK351.out 3) | ((with_reducible refine gate_callee (f := 59) rfl ?_); refine goesL_ (some 63) rfl rfl Try.func59 (by kernel_rfl) rfl #[.agg #[.string ((rd_T47 l0 x41_2).f0), .int .i64 ((rd_T47 l0 x41_2).f1), .int .i64 ((rd_T47 l0 x41_2).f2), .int .i64 ((rd_T47 l0 x41_2).f3)], .slice (some ⟨go44, 0, none⟩) y353.length co44] rfl (by (try simp only [z6, z7, z8]); first | done | (rw [show y353.length = x10_2.length from (Kd.R_reads' HO_10.out).1.symm] <;> rfl) | rfl | (simp only [z4, z5]; rfl)) ?_; (with_reducible refine (impl_Node_renamed.calls k2 ((rd_T47 l0 x41_2).f0) ((rd_T47 l0 x41_2).f1) ((rd_T47 l0 x41_2).f2) ((rd_T47 l0 x41_2).f3) _ _ y353 t354 t355 t356 t357 _ ?side1 ?side2 A45.out).mono ?_); (case side1 => repeat (first | exact (Kd.R_reads' HO_10.out).2.2 | (with_reducible refine Kd.C_alloc ?_ _) | (with_reducible refine Kd.C_drewN ?_ _) | (with_reducible refine Kd.C_drew ?_))); (case side2 => rw [show y353.length = x10_2.length from (Kd.R_reads' HO_10.out).1.symm]; exact (Kd.R_reads' HO_10.out).2.1); rintro e w57 ⟨rfl, hb⟩; refine ⟨_, rfl, ?_⟩; have n0_ := zK (Kd.R_below (by (with_reducible repeat (first | apply Kd.R_alloc | apply Kd.R_drewN | apply Kd.R_drew)); exact HO_9.out) hb); have n1_ := zK (Kd.R_below (by (with_reducible repeat (first | apply Kd.R_alloc | apply Kd.R_drewN | apply Kd.R_drew)); exact HO_10.out) hb); have n2_ := zK (zM (g := gb339) (o := .cells #[.string (⟨#[105, 110]⟩ : ByteArray), .int .i64 0, .int .i64 0, .int .i64 a1] 47 (0, 0)) (by (with_reducible repeat (first | refine zE ?_ _ | refine zF ?_ | refine zG ?_ _)); exact BK339.out) hb); have n3_ := zK (zM (g := gb351) (o := .cells #[.string ((rd_T47 l0 x41_2).f0), .int .i64 ((rd_T47 l0 x41_2).f1), .int .i64 ((rd_T47 l0 x41_2).f2), .int .i64 ((rd_T47 l0 x41_2).f3)] 47 (0, 0)) (by (with_reducible repeat (first | refine zE ?_ _ | refine zF ?_ | refine zG ?_ _)); exact BK351.out) hb); have n4_ := zK (zL (by repeat (first | (with_reducible first | exact HB.out | apply zA | apply zB | apply zC | refine zD ?_ GE339.out | refine zD ?_ GE351.out) | exact HB.out)) hb); clear HO_9; clear HO_10; clear BK339; clear BK351; clear HB; have HO_9 := n0_; have HO_10 := n1_; have BK339 := n2_; have BK351 := n3_; have HB := n4_; clear n0_ n1_ n2_ n3_ n4_; (try clear hb); (try clear hb2); (try clear hk); (try clear hi)) | ((with_reducible refine gate_builtin (b := .append) (xs := #[.tmp 60, .tmp 64]) rfl ?_); at_builtin; refine Kd.R_append k47 (w0 := w) w.heap.size rfl (.tmp 60) (.tmp 64) 24 47 (.agg #[(.string ⟨#[]⟩), (.int .i64 0), (.int .i64 0), (.int .i64 0)]) 40 rfl Try.underlying24 info47 rfl (by decide) (by omega) (.slice Ao53 x9_2.length co53) x9_2 (⟨t354, t355, t356, t357⟩ : S47) [.string t354, .int .i64 t355, .int .i64 t356, .int .i64 t357] (fun k_ => k_ ≠ gb339 ∧ k_ ≠ gb351) (fun _ => False) rfl rfl ?aP (fun _ hk => hk.elim) ?aF ?aO ?aB ?aS ?aL ?_; (case aP => exact k47_mkM _ _ _ (⟨t354, t355, t356, t357⟩ : S47)); (case aB => exact (by repeat (first | (with_reducible first | exact HB.out | apply zA | apply zB | apply zC | refine zD ?_ GE339.out | refine zD ?_ GE351.out) | exact HB.out))); (case aF => exact (fun k_ hk => ⟨Kd.freshB (g := gb339) (o := .cells #[.string (⟨#[105, 110]⟩ : ByteArray), .int .i64 0, .int .i64 0, .int .i64 a1] 47 (0, 0)) (by (with_reducible repeat (first | refine zE ?_ _ | refine zF ?_ | refine zG ?_ _)); exact BK339.out) k_ hk, Kd.freshB (g := gb351) (o := .cells #[.string ((rd_T47 l0 x41_2).f0), .int .i64 ((rd_T47 l0 x41_2).f1), .int .i64 ((rd_T47 l0 x41_2).f2), .int .i64 ((rd_T47 l0 x41_2).f3)] 47 (0, 0)) (by (with_reducible repeat (first | refine zE ?_ _ | refine zF ?_ | refine zG ?_ _)); exact BK351.out) k_ hk⟩)); (case aO => exact (by (with_reducible repeat (first | apply Kd.R_alloc | apply Kd.R_drewN | apply Kd.R_drew)); exact HO_9.out)); (case aS => exact (zN (by repeat (first | (with_reducible first | exact HB.out | apply zA | apply zB | apply zC | refine zD ?_ GE339.out | refine zD ?_ GE351.out) | exact HB.out)))); (case aL => have := LMc46.out; omega); intro v359 w58 ho hb hg hat; rw [← Ny358.out] at ho; have n0_ := zK (Kd.R_over' (by (with_reducible repeat (first | apply Kd.R_alloc | apply Kd.R_drewN | apply Kd.R_drew)); exact HO_10.out) (Kd.R_typed (by (with_reducible repeat (first | apply Kd.R_alloc | apply Kd.R_drewN | apply Kd.R_drew)); exact HO_9.out)) (by decide) hg); have n1_ := zK (blk_grown (g := gb339) (o := .cells #[.string (⟨#[105, 110]⟩ : ByteArray), .int .i64 0, .int .i64 0, .int .i64 a1] 47 (0, 0)) (by (with_reducible repeat (first | refine zE ?_ _ | refine zF ?_ | refine zG ?_ _)); exact BK339.out) hg (Kd.R_away HO_9.out (fun _ hk => hk.1))); have n2_ := zK (blk_grown (g := gb351) (o := .cells #[.string ((rd_T47 l0 x41_2).f0), .int .i64 ((rd_T47 l0 x41_2).f1), .int .i64 ((rd_T47 l0 x41_2).f2), .int .i64 ((rd_T47 l0 x41_2).f3)] 47 (0, 0)) (by (with_reducible repeat (first | refine zE ?_ _ | refine zF ?_ | refine zG ?_ _)); exact BK351.out) hg (Kd.R_away HO_9.out (fun _ hk => hk.2))); have n3_ := zK (hb); have n4_ := zK (ho); clear HO_10; clear BK339; clear BK351; clear HB; clear HO_9; have HO_10 := n0_; have BK339 := n1_; have BK351 := n2_; have HB := n3_; have HO360 := n4_; clear n0_ n1_ n2_ n3_ n4_; clear ho hb hg hat))
               go_roundg k2
               case measure => have := HJ3.out; have := HK2.out; omega
               case rel => exact ⟨(y358), (y353), (wrap64 (x41_2 + 1)), (by first | rfl | (simp; done) | (simp [*]; done)), H', ⟨by have := HJ3.out; have := HK2.out; omega⟩, ⟨by (with_reducible repeat (first | apply Kd.R_alloc | apply Kd.R_drewN | apply Kd.R_drew)); exact Kd.R_mono HO360.out (fun _ hk => hk.1)⟩, ⟨by (with_reducible repeat (first | apply Kd.R_alloc | apply Kd.R_drewN | apply Kd.R_drew)); exact HO_10.out⟩, ⟨by (with_reducible repeat (first | refine zE ?_ _ | refine zF ?_ | refine zG ?_ _)); exact BK339.out⟩, ⟨by repeat (first | (with_reducible first | exact HB.out | apply zA | apply zB | apply zC | refine zD ?_ GE339.out | refine zD ?_ GE351.out) | exact HB.out)⟩⟩
              ·rw [if_neg c46] at H
               exact absurd H (by simp)
             ·rw [if_neg c43] at H
              exact absurd H (by simp)
           ·rw [if_neg c31] at H
            exact absurd H (by simp)
          ·rw [if_neg c30] at H
           exact absurd H (by simp)
         ·rw [if_neg c29] at H
          have c29b0 : decide (x41_2 < (l0.length : Int)) = false := decide_eq_false c29
          clear c29
          by_cases c59 : (x9_2.length : Int) > 24
          ·rw [if_pos c59] at H
           have c59b0 : decide (24 < (x9_2.length : Int)) = true := decide_eq_true c59
           have c59b1 : decide (24 < x9_2.length) = true := decide_eq_true (by omega)
           clear c59
           simp only [Option.some.injEq, Prod.mk.injEq] at H
           obtain ⟨rfl, rfl⟩ := H
           obtain ⟨Ao60, co60, eo60⟩ := Kd.R_slice HO_9.out
           subst eo60
           go_wp2
           go_ret2
           exact ⟨_, by first | rfl | (simp [errW_none, errW_some] <;> rfl) | (simp [*, errW_none, errW_some] <;> rfl), by first | exact Kd.R_nil _ _ _ _ _ | exact Kd.N_nil _ _ _ _ _ | exact Kd.V_nil _ _ _ _ _ | exact Kd.Q_nil _ _ _ _ _ | exact Kd.S_nil _ _ _ _ _, by repeat (first | (with_reducible first | exact HB.out | apply zA | apply zB | apply zC | refine zD ?_ GE339.out) | exact HB.out)⟩
          ·rw [if_neg c59] at H
           have c59b0 : decide (24 < (x9_2.length : Int)) = false := decide_eq_false c59
           have c59b1 : decide (24 < x9_2.length) = false := decide_eq_false (by omega)
           clear c59
           simp only [Option.some.injEq, Prod.mk.injEq] at H
           obtain ⟨rfl, rfl⟩ := H
           obtain ⟨Ao61, co61, eo61⟩ := Kd.R_slice HO_9.out
           subst eo61
           go_wp2
           go_ret2
           exact ⟨_, by first | rfl | (simp [errW_none, errW_some] <;> rfl) | (simp [*, errW_none, errW_some] <;> rfl), by (with_reducible repeat (first | apply Kd.R_alloc | apply Kd.R_drewN | apply Kd.R_drew)); exact Kd.R_mono HO_9.out (fun _ hk => trivial), by repeat (first | (with_reducible first | exact HB.out | apply zA | apply zB | apply zC | refine zD ?_ GE339.out) | exact HB.out)⟩
      ·rw [if_neg c20] at H
       exact absurd H (by simp)
     ·rw [if_neg c19] at H
      exact absurd H (by simp)
    ·replace c17 := Bool.eq_false_iff.mpr c17
     subst c17
     have H1 : ((impl_Node_58.f l0).bind fun t341 => (some (t341, true))) = some (r1, r2) := by rw [if_neg (show ¬ (false = true) by decide)] at H; exact H
     clear H
     have H := H1
     clear H1
     replace H := Option.bind_eq_some_iff.mp H
     obtain ⟨t341, A620, H⟩ := H
     replace H : (some (t341, true)) = some (r1, r2) := H
     have A62 := zK A620
     clear A620
     simp only [Option.some.injEq, Prod.mk.injEq] at H
     obtain ⟨rfl, rfl⟩ := H
     go_wp2_with (first | ((with_reducible refine gate_dst (N := 8) rfl ?_); refine box_event ?hg (N := 8) ?hd (cs := #[.string (⟨#[]⟩ : ByteArray), .int .i64 0, .int .i64 0, .int .i64 0]) (t := 47) ?hr ?_; (case hd => rfl); (case hg => rfl); (case hr => first | (go_simp; done) | (go_simp; rfl)); intro gb339 hg w63 hbox hb; have n0_ := zK (zL (by repeat (first | (with_reducible first | exact HB.out | apply zA | apply zB | apply zC) | exact HB.out)) hb); have n1_ := zK (hbox); have n2_ := zK ((by rw [hg]; exact (zN (by repeat (first | (with_reducible first | exact HB.out | apply zA | apply zB | apply zC) | exact HB.out))) : w.heap.size ≤ gb339)); have n3_ := zK ((by rw [hg]; exact (zN (by repeat (first | (with_reducible first | exact HB.out | apply zA | apply zB | apply zC) | exact HB.out))) : w.heap.size ≤ gb339)); clear HB; have HB := n0_; have BK339 := n1_; have GW339 := n2_; have GE339 := n3_; clear n0_ n1_ n2_ n3_; clear hb hbox hg; have hcz64_0 : w63.cell? ⟨gb339, 0, none⟩ = some (.string (⟨#[]⟩ : ByteArray)) := (zI BK339.out 0).trans rfl; have hcz64_1 : w63.cell? ⟨gb339, 1, none⟩ = some (.int .i64 0) := (zI BK339.out 1).trans rfl; have hcz64_2 : w63.cell? ⟨gb339, 2, none⟩ = some (.int .i64 0) := (zI BK339.out 2).trans rfl; have hcz64_3 : w63.cell? ⟨gb339, 3, none⟩ = some (.int .i64 0) := (zI BK339.out 3).trans rfl; have hfz64_0 := zH BK339.out 0; have hfz64_1 := zH BK339.out 1; have hfz64_2 := zH BK339.out 2; have hfz64_3 := zH BK339.out 3) | ((with_reducible refine gate_callee (f := 57) rfl ?_); refine goesL_ (some 30) rfl rfl Try.func57 (by kernel_rfl) rfl #[.slice A0 l0.length c0, .agg #[.string (⟨#[105, 110]⟩ : ByteArray), .int .i64 0, .int .i64 0, .int .i64 a1]] rfl (by (try simp only [z6, z7, z8]); first | done | rfl | (simp only [z4, z5]; rfl)) ?_; (with_reducible refine (impl_Node_57.calls kj3 _ _ l0 (⟨#[105, 110]⟩ : ByteArray) 0 0 a1 false _ ?side1 ?side2 A16.out).mono ?_); (case side1 => exact Kd.C_below HR0.out (by repeat (first | (with_reducible first | exact HB.out | apply zA | apply zB | apply zC | refine zD ?_ GE339.out) | exact HB.out))); (case side2 => exact HC0.out); rintro e w65 ⟨rfl, hb⟩; refine ⟨_, rfl, ?_⟩; have n0_ := zK (zM (g := gb339) (o := .cells #[.string (⟨#[105, 110]⟩ : ByteArray), .int .i64 0, .int .i64 0, .int .i64 a1] 47 (0, 0)) (by (with_reducible repeat (first | refine zE ?_ _ | refine zF ?_ | refine zG ?_ _)); refine blk_put (cs := #[.string (⟨#[105, 110]⟩ : ByteArray), .int .i64 0, .int .i64 0, .int .i64 0]) ?_ 3 _ rfl; (with_reducible repeat (first | refine zE ?_ _ | refine zF ?_ | refine zG ?_ _)); refine blk_put (cs := #[.string (⟨#[105, 110]⟩ : ByteArray), .int .i64 0, .int .i64 0, .int .i64 0]) ?_ 2 _ rfl; (with_reducible repeat (first | refine zE ?_ _ | refine zF ?_ | refine zG ?_ _)); refine blk_put (cs := #[.string (⟨#[105, 110]⟩ : ByteArray), .int .i64 0, .int .i64 0, .int .i64 0]) ?_ 1 _ rfl; (with_reducible repeat (first | refine zE ?_ _ | refine zF ?_ | refine zG ?_ _)); refine blk_put (cs := #[.string (⟨#[]⟩ : ByteArray), .int .i64 0, .int .i64 0, .int .i64 0]) ?_ 0 _ rfl; (with_reducible repeat (first | refine zE ?_ _ | refine zF ?_ | refine zG ?_ _)); exact BK339.out) hb); have n1_ := zK (zL (by repeat (first | (with_reducible first | exact HB.out | apply zA | apply zB | apply zC | refine zD ?_ GE339.out) | exact HB.out)) hb); clear BK339; clear HB; have BK339 := n0_; have HB := n1_; clear n0_ n1_; (try clear hb); (try clear hb2); (try clear hk); (try clear hi)) | ((with_reducible refine gate_callee (f := 58) rfl ?_); refine goesL_ (some 33) rfl rfl Try.func58 (by kernel_rfl) rfl #[.slice A0 l0.length c0] rfl (by (try simp only [z6, z7, z8]); first | done | rfl | (simp only [z4, z5]; rfl)) ?_; (with_reducible refine (impl_Node_58.calls _ _ l0 t341 _ ?side1 ?side2 A62.out).mono ?_); (case side1 => repeat (first | exact (Kd.C_below HR0.out HB.out) | (with_reducible refine Kd.C_alloc ?_ _) | (with_reducible refine Kd.C_drewN ?_ _) | (with_reducible refine Kd.C_drew ?_))); (case side2 => exact HC0.out); rintro e w66 ⟨v342, rfl, ho0, hb⟩; refine ⟨_, rfl, ?_⟩; have n0_ := zK (Kd.R_lower (Kd.R_newB ho0 (g := gb339) (o := .cells #[.string (⟨#[105, 110]⟩ : ByteArray), .int .i64 0, .int .i64 0, .int .i64 a1] 47 (0, 0)) (by (with_reducible repeat (first | refine zE ?_ _ | refine zF ?_ | refine zG ?_ _)); exact BK339.out)) (zN (by repeat (first | (with_reducible first | exact HB.out | apply zA | apply zB | apply zC | refine zD ?_ GE339.out) | exact HB.out)))); have n1_ := zK (zM (g := gb339) (o := .cells #[.string (⟨#[105, 110]⟩ : ByteArray), .int .i64 0, .int .i64 0, .int .i64 a1] 47 (0, 0)) (by (with_reducible repeat (first | refine zE ?_ _ | refine zF ?_ | refine zG ?_ _)); exact BK339.out) hb); have n2_ := zK (zL (by repeat (first | (with_reducible first | exact HB.out | apply zA | apply zB | apply zC | refine zD ?_ GE339.out) | exact HB.out)) hb); clear BK339; clear HB; have HO343 := n0_; have BK339 := n1_; have HB := n2_; clear n0_ n1_ n2_; (try clear hb); (try clear hb2); (try clear hk); (try clear hi); (try clear ho0)))
     go_ret2
     exact ⟨_, by first | rfl | (simp [errW_none, errW_some] <;> rfl) | (simp [*, errW_none, errW_some] <;> rfl), by (with_reducible repeat (first | apply Kd.R_alloc | apply Kd.R_drewN | apply Kd.R_drew)); exact Kd.R_mono HO343.out (fun _ hk => trivial), by repeat (first | (with_reducible first | exact HB.out | apply zA | apply zB | apply zC | refine zD ?_ GE339.out) | exact HB.out)⟩

end Go.Proofs.Ytlcplhcccgbmnaa.B
