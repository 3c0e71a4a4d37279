/- Contracts: impl_Node_renamed, impl_kept. -/
import Derived.Test.YtlcplhcccgbmnaaDK
import Derived.Test.YtlcplhcccgbmnaaDLawsBig
namespace Go.Proofs.Ytlcplhcccgbmnaa.D
open Go.RowKit Go.Proofs.YtlcplhcccgbmnaaW.PrintWords Go.Proofs.YtlcplhcccgbmnaaW.PrintLast Go.Proofs.YtlcplhcccgbmnaaW.PrintMore
attribute [local go_sem] max2_int min2_int max_two min_two max_three min_three max_four min_four   -- for this text's walks alone
set_option linter.unusedVariables false
set_option linter.unusedSimpArgs false

/-! ### impl_Node_renamed: function 59 -/
def impl_Node_renamed.f (k : Nat) (a0_0 : ByteArray) (a0_1 : Int) (a0_2 : Int) (a0_3 : Int) (l1 : List Int) : Option (ByteArray × Int × Int × Int) := (impl_operands.f k a0_0).bind fun t369 => (if t369 > 0 then (if 0 ≤ a0_1 then (if a0_1 < (l1.length : Int) then (if t369 > 1 then (if 0 ≤ a0_2 then (if a0_2 < (l1.length : Int) then (some (a0_0, rd l1 a0_1, rd l1 a0_2, a0_3)) else (none)) else (none)) else (some (a0_0, rd l1 a0_1, a0_2, a0_3))) else (none)) else (none)) else (if t369 > 1 then (if 0 ≤ a0_2 then (if a0_2 < (l1.length : Int) then (some (a0_0, a0_1, rd l1 a0_2, a0_3)) else (none)) else (none)) else (some (a0_0, a0_1, a0_2, a0_3))))
set_option maxHeartbeats 8000000 in
set_option maxRecDepth 100000 in
theorem impl_Node_renamed.calls (k : Nat) (a0_0 : ByteArray) (a0_1 : Int) (a0_2 : Int) (a0_3 : Int) (A1 : Option Addr) (c1 : Nat) (l1 : List Int) (r1 : ByteArray) (r2 : Int) (r3 : Int) (r4 : Int) (w : World) (hr1 : Kd.C (Kd.int .i64) w A1 l1.length l1) (hc1 : l1.length ≤ c1) (h : impl_Node_renamed.f k a0_0 a0_1 a0_2 a0_3 l1 = some (r1, r2, r3, r4)) :
  Calls Try.prog 59 #[.agg #[.string a0_0, .int .i64 a0_1, .int .i64 a0_2, .int .i64 a0_3], .slice A1 l1.length c1] w fun e w' => e = .returned (.agg #[.string r1, .int .i64 r2, .int .i64 r3, .int .i64 r4]) ∧ Below w.heap.size w w' := by
 have hu47 := Try.underlying47
 have HR1 := zK hr1
 have HC1 := zK hc1
 clear hr1 hc1
 have HB := zK (Below.refl w.heap.size w)
 have H : ((impl_operands.f k a0_0).bind fun t369 => (if t369 > 0 then (if 0 ≤ a0_1 then (if a0_1 < (l1.length : Int) then (if t369 > 1 then (if 0 ≤ a0_2 then (if a0_2 < (l1.length : Int) then (some (a0_0, rd l1 a0_1, rd l1 a0_2, a0_3)) else (none)) else (none)) else (some (a0_0, rd l1 a0_1, a0_2, a0_3))) else (none)) else (none)) else (if t369 > 1 then (if 0 ≤ a0_2 then (if a0_2 < (l1.length : Int) then (some (a0_0, a0_1, rd l1 a0_2, a0_3)) else (none)) else (none)) else (some (a0_0, a0_1, a0_2, a0_3))))) = some (r1, r2, r3, r4) := h
 clear h
 replace H := Option.bind_eq_some_iff.mp H
 obtain ⟨t369, A30, H⟩ := H
 replace H : (if t369 > 0 then (if 0 ≤ a0_1 then (if a0_1 < (l1.length : Int) then (if t369 > 1 then (if 0 ≤ a0_2 then (if a0_2 < (l1.length : Int) then (some (a0_0, rd l1 a0_1, rd l1 a0_2, a0_3)) else (none)) else (none)) else (some (a0_0, rd l1 a0_1, a0_2, a0_3))) else (none)) else (none)) else (if t369 > 1 then (if 0 ≤ a0_2 then (if a0_2 < (l1.length : Int) then (some (a0_0, a0_1, rd l1 a0_2, a0_3)) else (none)) else (none)) else (some (a0_0, a0_1, a0_2, a0_3)))) = some (r1, r2, r3, r4) := H
 have A3 := zK A30
 clear A30
 by_cases c4 : t369 > 0
 ·rw [if_pos c4] at H
  have c4b0 : decide (0 < t369) = true := decide_eq_true c4
  clear c4
  by_cases c5 : 0 ≤ a0_1
  ·rw [if_pos c5] at H
   have c5b0 : decide (0 ≤ a0_1) = true := decide_eq_true c5
   clear c5
   by_cases c6 : a0_1 < (l1.length : Int)
   ·rw [if_pos c6] at H
    have c6b0 : decide (a0_1 < (l1.length : Int)) = true := decide_eq_true c6
    clear c6
    by_cases c7 : t369 > 1
    ·rw [if_pos c7] at H
     have c7b0 : decide (1 < t369) = true := decide_eq_true c7
     clear c7
     by_cases c8 : 0 ≤ a0_2
     ·rw [if_pos c8] at H
      have c8b0 : decide (0 ≤ a0_2) = true := decide_eq_true c8
      clear c8
      by_cases c9 : a0_2 < (l1.length : Int)
      ·rw [if_pos c9] at H
       have c9b0 : decide (a0_2 < (l1.length : Int)) = true := decide_eq_true c9
       clear c9
       simp only [Option.some.injEq, Prod.mk.injEq] at H
       obtain ⟨rfl, rfl, rfl, rfl⟩ := H
       go_enter Try.func59, Try.ntmps59
       go_wp2_with (first | ((with_reducible refine gate_dst (N := 2) rfl ?_); refine box_event ?hg (N := 2) ?hd (cs := #[.string a0_0, .int .i64 a0_1, .int .i64 a0_2, .int .i64 a0_3]) (t := 47) ?hr ?_; (case hd | hg => rfl); (case hr => exact xxa); intro gb367 hg w10 hbox hb; have n0_ := zK (zL ya hb); have n1_ := zK (hbox); have n2_ := zK ((by rw [hg]; exact (zN ya) : w.heap.size ≤ gb367)); have n3_ := n2_; clear HB; have HB := n0_; have BK367 := n1_; have GW367 := n2_; have GE367 := n3_; clear n0_ n1_ n2_ n3_; clear hb hbox hg) | ((with_reducible refine gate_dst (N := 4) rfl ?_); refine box_event ?hg (N := 4) ?hd (cs := #[.string (⟨#[]⟩ : ByteArray), .int .i64 0, .int .i64 0, .int .i64 0]) (t := 47) ?hr ?_; (case hd | hg => rfl); (case hr => exact xxa); intro gb368 hg w11 hbox hb; have n0_ := zK (zM (g := gb367) (o := .cells #[.string a0_0, .int .i64 a0_1, .int .i64 a0_2, .int .i64 a0_3] 47 (0, 0)) yy hb); have n1_ := zK (zL yn1 hb); have n2_ := zK (hbox); have n3_ := zK ((by rw [hg]; exact (zN yn1) : w.heap.size ≤ gb368)); have n4_ := n3_; have n5_ := zK ((by rw [hg]; exact Nat.ne_of_lt (blk_lt (g := gb367) (o := .cells #[.string a0_0, .int .i64 a0_1, .int .i64 a0_2, .int .i64 a0_3] 47 (0, 0)) yy) : gb367 ≠ gb368)); have n6_ := zK n5_.out.symm; clear BK367; clear HB; have BK367 := n0_; have HB := n1_; have BK368 := n2_; have GW368 := n3_; have GE368 := n4_; have NB367_368 := n5_; have NB368_367 := n6_; clear n0_ n1_ n2_ n3_ n4_ n5_ n6_; clear hb hbox hg; have hnb12 := NB367_368.out; have hnc12 := NB368_367.out; have hcz13_0 : w11.cell? ⟨gb367, 0, none⟩ = some (.string a0_0) := (zI BK367.out 0).trans rfl; have hcz13_1 : w11.cell? ⟨gb367, 1, none⟩ = some (.int .i64 a0_1) := (zI BK367.out 1).trans rfl; have hcz13_2 : w11.cell? ⟨gb367, 2, none⟩ = some (.int .i64 a0_2) := (zI BK367.out 2).trans rfl; have hcz13_3 : w11.cell? ⟨gb367, 3, none⟩ = some (.int .i64 a0_3) := (zI BK367.out 3).trans rfl; have hfz13_0 := zH BK367.out 0; have hfz13_1 := zH BK367.out 1; have hfz13_2 := zH BK367.out 2; have hfz13_3 := zH BK367.out 3) | ((with_reducible refine gate_callee (f := 83) rfl ?_); refine goesL_ (some 8) rfl rfl Try.func83 yi rfl #[.string a0_0] rfl yb ?_; (with_reducible refine (impl_operands.calls k a0_0 t369 _ A3.out).mono ?_); rintro e w14 ⟨rfl, hb⟩; refine ⟨_, rfl, ?_⟩; have n0_ := zK (zM (g := gb367) (o := .cells #[.string a0_0, .int .i64 a0_1, .int .i64 a0_2, .int .i64 a0_3] 47 (0, 0)) yy hb); have n1_ := zK (zM (g := gb368) (o := .cells #[.string (⟨#[]⟩ : ByteArray), .int .i64 0, .int .i64 0, .int .i64 0] 47 (0, 0)) (yS BK368.out) hb); have n2_ := zK (zL ya1 hb); clear BK367; clear BK368; clear HB; have BK367 := n0_; have BK368 := n1_; have HB := n2_; clear n0_ n1_ n2_; (try clear hb); (try clear hb2); (try clear hk); (try clear hi); have hcz15_0 : w14.cell? ⟨gb367, 0, none⟩ = some (.string a0_0) := (zI BK367.out 0).trans rfl; have hcz15_1 : w14.cell? ⟨gb367, 1, none⟩ = some (.int .i64 a0_1) := (zI BK367.out 1).trans rfl; have hcz15_2 : w14.cell? ⟨gb367, 2, none⟩ = some (.int .i64 a0_2) := (zI BK367.out 2).trans rfl; have hcz15_3 : w14.cell? ⟨gb367, 3, none⟩ = some (.int .i64 a0_3) := (zI BK367.out 3).trans rfl; have hfz15_0 := zH BK367.out 0; have hfz15_1 := zH BK367.out 1; have hfz15_2 := zH BK367.out 2; have hfz15_3 := zH BK367.out 3; have p370 : 0 ≤ (a0_1 : Int) := zo; have q370 : a0_1 < (l1.length : Int) := zo; obtain ⟨ad370, e370, hx370_0⟩ := Kd.at_int HR1.out a0_1 p370 q370; cases e370; replace hx370_0 := zt HB.out hx370_0; replace p370 := eq_true p370; replace q370 := eq_true q370; have p371 : 0 ≤ (a0_2 : Int) := zo; have q371 : a0_2 < (l1.length : Int) := zo; obtain ⟨ad371, e371, hx371_0⟩ := Kd.at_int HR1.out a0_2 p371 q371; obtain rfl : ad370 = ad371 := (by injection e371); have hn371_0 : ad370.block ≠ gb367 := Nat.ne_of_lt (Nat.lt_of_lt_of_le (by have := zW _ _ hx371_0; first | rwa [add_block] at this | exact this) GW367.out); replace hx371_0 := zt HB.out hx371_0; replace hx371_0 := (cell_far (p := ⟨gb367, 1, none⟩) (by first | (rw [add_block]; exact hn371_0) | (show (Addr.add _ _).block ≠ _; rw [add_block]; exact hn371_0) | exact hn371_0) (.int .i64 (rd l1 a0_1))).trans hx371_0; clear hn371_0; replace p371 := eq_true p371; replace q371 := eq_true q371; have hcz16_0 : w14.cell? ⟨gb368, 0, none⟩ = some (.string (⟨#[]⟩ : ByteArray)) := (zI BK368.out 0).trans rfl; have hcz16_1 : w14.cell? ⟨gb368, 1, none⟩ = some (.int .i64 0) := (zI BK368.out 1).trans rfl; have hcz16_2 : w14.cell? ⟨gb368, 2, none⟩ = some (.int .i64 0) := (zI BK368.out 2).trans rfl; have hcz16_3 : w14.cell? ⟨gb368, 3, none⟩ = some (.int .i64 0) := (zI BK368.out 3).trans rfl; have hfz16_0 := zH BK368.out 0; have hfz16_1 := zH BK368.out 1; have hfz16_2 := zH BK368.out 2; have hfz16_3 := zH BK368.out 3))
       refine bodyPost_ret (results_cell_row rfl _ _ gb368 47 #[.string a0_0, .int .i64 (rd l1 a0_1), .int .i64 (rd l1 a0_2), .int .i64 a0_3] (0, 0) _ rfl (by (with_reducible repeat (first | refine zE ?_ _ | refine zF ?_ | refine zG ?_ _)); refine blk_put (cs := #[.string a0_0, .int .i64 (rd l1 a0_1), .int .i64 (rd l1 a0_2), .int .i64 0]) ?_ 3 _ rfl; (with_reducible repeat (first | refine zE ?_ _ | refine zF ?_ | refine zG ?_ _)); refine blk_put (cs := #[.string a0_0, .int .i64 (rd l1 a0_1), .int .i64 0, .int .i64 0]) ?_ 2 _ rfl; (with_reducible repeat (first | refine zE ?_ _ | refine zF ?_ | refine zG ?_ _)); refine blk_put (cs := #[.string a0_0, .int .i64 0, .int .i64 0, .int .i64 0]) ?_ 1 _ rfl; (with_reducible repeat (first | refine zE ?_ _ | refine zF ?_ | refine zG ?_ _)); refine blk_put (cs := #[.string (⟨#[]⟩ : ByteArray), .int .i64 0, .int .i64 0, .int .i64 0]) ?_ 0 _ rfl; (with_reducible repeat (first | refine zE ?_ _ | refine zF ?_ | refine zG ?_ _)); refine blk_far ?_ NB368_367.out _; (with_reducible repeat (first | refine zE ?_ _ | refine zF ?_ | refine zG ?_ _)); refine blk_far ?_ NB368_367.out _; (with_reducible repeat (first | refine zE ?_ _ | refine zF ?_ | refine zG ?_ _)); exact BK368.out) Try.underlying47 rfl yi) rfl ?_
       exact ⟨yd, ya1⟩
      ·rw [if_neg c9] at H
       exact absurd H ye1
     ·rw [if_neg c8] at H
      exact absurd H ye1
    ·rw [if_neg c7] at H
     have c7b0 : decide (1 < t369) = false := decide_eq_false c7
     clear c7
     simp only [Option.some.injEq, Prod.mk.injEq] at H
     obtain ⟨rfl, rfl, rfl, rfl⟩ := H
     go_enter Try.func59, Try.ntmps59
     go_wp2_with (first | ((with_reducible refine gate_dst (N := 2) rfl ?_); refine box_event ?hg (N := 2) ?hd (cs := #[.string a0_0, .int .i64 a0_1, .int .i64 a0_2, .int .i64 a0_3]) (t := 47) ?hr ?_; (case hd | hg => rfl); (case hr => exact xxa); intro gb367 hg w17 hbox hb; have n0_ := zK (zL ya hb); have n1_ := zK (hbox); have n2_ := zK ((by rw [hg]; exact (zN ya) : w.heap.size ≤ gb367)); have n3_ := n2_; clear HB; have HB := n0_; have BK367 := n1_; have GW367 := n2_; have GE367 := n3_; clear n0_ n1_ n2_ n3_; clear hb hbox hg) | ((with_reducible refine gate_dst (N := 4) rfl ?_); refine box_event ?hg (N := 4) ?hd (cs := #[.string (⟨#[]⟩ : ByteArray), .int .i64 0, .int .i64 0, .int .i64 0]) (t := 47) ?hr ?_; (case hd | hg => rfl); (case hr => exact xxa); intro gb368 hg w18 hbox hb; have n0_ := zK (zM (g := gb367) (o := .cells #[.string a0_0, .int .i64 a0_1, .int .i64 a0_2, .int .i64 a0_3] 47 (0, 0)) yy hb); have n1_ := zK (zL yn1 hb); have n2_ := zK (hbox); have n3_ := zK ((by rw [hg]; exact (zN yn1) : w.heap.size ≤ gb368)); have n4_ := n3_; have n5_ := zK ((by rw [hg]; exact Nat.ne_of_lt (blk_lt (g := gb367) (o := .cells #[.string a0_0, .int .i64 a0_1, .int .i64 a0_2, .int .i64 a0_3] 47 (0, 0)) yy) : gb367 ≠ gb368)); have n6_ := zK n5_.out.symm; clear BK367; clear HB; have BK367 := n0_; have HB := n1_; have BK368 := n2_; have GW368 := n3_; have GE368 := n4_; have NB367_368 := n5_; have NB368_367 := n6_; clear n0_ n1_ n2_ n3_ n4_ n5_ n6_; clear hb hbox hg; have hnb19 := NB367_368.out; have hnc19 := NB368_367.out; have hcz20_0 : w18.cell? ⟨gb367, 0, none⟩ = some (.string a0_0) := (zI BK367.out 0).trans rfl; have hcz20_1 : w18.cell? ⟨gb367, 1, none⟩ = some (.int .i64 a0_1) := (zI BK367.out 1).trans rfl; have hcz20_2 : w18.cell? ⟨gb367, 2, none⟩ = some (.int .i64 a0_2) := (zI BK367.out 2).trans rfl; have hcz20_3 : w18.cell? ⟨gb367, 3, none⟩ = some (.int .i64 a0_3) := (zI BK367.out 3).trans rfl; have hfz20_0 := zH BK367.out 0; have hfz20_1 := zH BK367.out 1; have hfz20_2 := zH BK367.out 2; have hfz20_3 := zH BK367.out 3) | ((with_reducible refine gate_callee (f := 83) rfl ?_); refine goesL_ (some 8) rfl rfl Try.func83 yi rfl #[.string a0_0] rfl yb ?_; (with_reducible refine (impl_operands.calls k a0_0 t369 _ A3.out).mono ?_); rintro e w21 ⟨rfl, hb⟩; refine ⟨_, rfl, ?_⟩; have n0_ := zK (zM (g := gb367) (o := .cells #[.string a0_0, .int .i64 a0_1, .int .i64 a0_2, .int .i64 a0_3] 47 (0, 0)) yy hb); have n1_ := zK (zM (g := gb368) (o := .cells #[.string (⟨#[]⟩ : ByteArray), .int .i64 0, .int .i64 0, .int .i64 0] 47 (0, 0)) (yS BK368.out) hb); have n2_ := zK (zL ya1 hb); clear BK367; clear BK368; clear HB; have BK367 := n0_; have BK368 := n1_; have HB := n2_; clear n0_ n1_ n2_; (try clear hb); (try clear hb2); (try clear hk); (try clear hi); have hcz22_0 : w21.cell? ⟨gb367, 0, none⟩ = some (.string a0_0) := (zI BK367.out 0).trans rfl; have hcz22_1 : w21.cell? ⟨gb367, 1, none⟩ = some (.int .i64 a0_1) := (zI BK367.out 1).trans rfl; have hcz22_2 : w21.cell? ⟨gb367, 2, none⟩ = some (.int .i64 a0_2) := (zI BK367.out 2).trans rfl; have hcz22_3 : w21.cell? ⟨gb367, 3, none⟩ = some (.int .i64 a0_3) := (zI BK367.out 3).trans rfl; have hfz22_0 := zH BK367.out 0; have hfz22_1 := zH BK367.out 1; have hfz22_2 := zH BK367.out 2; have hfz22_3 := zH BK367.out 3; have p370 : 0 ≤ (a0_1 : Int) := zo; have q370 : a0_1 < (l1.length : Int) := zo; obtain ⟨ad370, e370, hx370_0⟩ := Kd.at_int HR1.out a0_1 p370 q370; cases e370; replace hx370_0 := zt HB.out hx370_0; replace p370 := eq_true p370; replace q370 := eq_true q370; have hcz23_0 : w21.cell? ⟨gb368, 0, none⟩ = some (.string (⟨#[]⟩ : ByteArray)) := (zI BK368.out 0).trans rfl; have hcz23_1 : w21.cell? ⟨gb368, 1, none⟩ = some (.int .i64 0) := (zI BK368.out 1).trans rfl; have hcz23_2 : w21.cell? ⟨gb368, 2, none⟩ = some (.int .i64 0) := (zI BK368.out 2).trans rfl; have hcz23_3 : w21.cell? ⟨gb368, 3, none⟩ = some (.int .i64 0) := (zI BK368.out 3).trans rfl; have hfz23_0 := zH BK368.out 0; have hfz23_1 := zH BK368.out 1; have hfz23_2 := zH BK368.out 2; have hfz23_3 := zH BK368.out 3))
     refine bodyPost_ret (results_cell_row rfl _ _ gb368 47 #[.string a0_0, .int .i64 (rd l1 a0_1), .int .i64 a0_2, .int .i64 a0_3] (0, 0) _ rfl (by (with_reducible repeat (first | refine zE ?_ _ | refine zF ?_ | refine zG ?_ _)); refine blk_put (cs := #[.string a0_0, .int .i64 (rd l1 a0_1), .int .i64 a0_2, .int .i64 0]) ?_ 3 _ rfl; (with_reducible repeat (first | refine zE ?_ _ | refine zF ?_ | refine zG ?_ _)); refine blk_put (cs := #[.string a0_0, .int .i64 (rd l1 a0_1), .int .i64 0, .int .i64 0]) ?_ 2 _ rfl; (with_reducible repeat (first | refine zE ?_ _ | refine zF ?_ | refine zG ?_ _)); refine blk_put (cs := #[.string a0_0, .int .i64 0, .int .i64 0, .int .i64 0]) ?_ 1 _ rfl; (with_reducible repeat (first | refine zE ?_ _ | refine zF ?_ | refine zG ?_ _)); refine blk_put (cs := #[.string (⟨#[]⟩ : ByteArray), .int .i64 0, .int .i64 0, .int .i64 0]) ?_ 0 _ rfl; (with_reducible repeat (first | refine zE ?_ _ | refine zF ?_ | refine zG ?_ _)); refine blk_far ?_ NB368_367.out _; (with_reducible repeat (first | refine zE ?_ _ | refine zF ?_ | refine zG ?_ _)); exact BK368.out) Try.underlying47 rfl yi) rfl ?_
     exact ⟨yd, ya1⟩
   ·rw [if_neg c6] at H
    exact absurd H ye1
  ·rw [if_neg c5] at H
   exact absurd H ye1
 ·rw [if_neg c4] at H
  have c4b0 : decide (0 < t369) = false := decide_eq_false c4
  clear c4
  by_cases c24 : t369 > 1
  ·rw [if_pos c24] at H
   have c24b0 : decide (1 < t369) = true := decide_eq_true c24
   clear c24
   by_cases c25 : 0 ≤ a0_2
   ·rw [if_pos c25] at H
    have c25b0 : decide (0 ≤ a0_2) = true := decide_eq_true c25
    clear c25
    by_cases c26 : a0_2 < (l1.length : Int)
    ·rw [if_pos c26] at H
     have c26b0 : decide (a0_2 < (l1.length : Int)) = true := decide_eq_true c26
     clear c26
     simp only [Option.some.injEq, Prod.mk.injEq] at H
     obtain ⟨rfl, rfl, rfl, rfl⟩ := H
     go_enter Try.func59, Try.ntmps59
     go_wp2_with (first | ((with_reducible refine gate_dst (N := 2) rfl ?_); refine box_event ?hg (N := 2) ?hd (cs := #[.string a0_0, .int .i64 a0_1, .int .i64 a0_2, .int .i64 a0_3]) (t := 47) ?hr ?_; (case hd | hg => rfl); (case hr => exact xxa); intro gb367 hg w27 hbox hb; have n0_ := zK (zL ya hb); have n1_ := zK (hbox); have n2_ := zK ((by rw [hg]; exact (zN ya) : w.heap.size ≤ gb367)); have n3_ := n2_; clear HB; have HB := n0_; have BK367 := n1_; have GW367 := n2_; have GE367 := n3_; clear n0_ n1_ n2_ n3_; clear hb hbox hg) | ((with_reducible refine gate_dst (N := 4) rfl ?_); refine box_event ?hg (N := 4) ?hd (cs := #[.string (⟨#[]⟩ : ByteArray), .int .i64 0, .int .i64 0, .int .i64 0]) (t := 47) ?hr ?_; (case hd | hg => rfl); (case hr => exact xxa); intro gb368 hg w28 hbox hb; have n0_ := zK (zM (g := gb367) (o := .cells #[.string a0_0, .int .i64 a0_1, .int .i64 a0_2, .int .i64 a0_3] 47 (0, 0)) yy hb); have n1_ := zK (zL yn1 hb); have n2_ := zK (hbox); have n3_ := zK ((by rw [hg]; exact (zN yn1) : w.heap.size ≤ gb368)); have n4_ := n3_; have n5_ := zK ((by rw [hg]; exact Nat.ne_of_lt (blk_lt (g := gb367) (o := .cells #[.string a0_0, .int .i64 a0_1, .int .i64 a0_2, .int .i64 a0_3] 47 (0, 0)) yy) : gb367 ≠ gb368)); have n6_ := zK n5_.out.symm; clear BK367; clear HB; have BK367 := n0_; have HB := n1_; have BK368 := n2_; have GW368 := n3_; have GE368 := n4_; have NB367_368 := n5_; have NB368_367 := n6_; clear n0_ n1_ n2_ n3_ n4_ n5_ n6_; clear hb hbox hg; have hnb29 := NB367_368.out; have hnc29 := NB368_367.out; have hcz30_0 : w28.cell? ⟨gb367, 0, none⟩ = some (.string a0_0) := (zI BK367.out 0).trans rfl; have hcz30_1 : w28.cell? ⟨gb367, 1, none⟩ = some (.int .i64 a0_1) := (zI BK367.out 1).trans rfl; have hcz30_2 : w28.cell? ⟨gb367, 2, none⟩ = some (.int .i64 a0_2) := (zI BK367.out 2).trans rfl; have hcz30_3 : w28.cell? ⟨gb367, 3, none⟩ = some (.int .i64 a0_3) := (zI BK367.out 3).trans rfl; have hfz30_0 := zH BK367.out 0; have hfz30_1 := zH BK367.out 1; have hfz30_2 := zH BK367.out 2; have hfz30_3 := zH BK367.out 3) | ((with_reducible refine gate_callee (f := 83) rfl ?_); refine goesL_ (some 8) rfl rfl Try.func83 yi rfl #[.string a0_0] rfl yb ?_; (with_reducible refine (impl_operands.calls k a0_0 t369 _ A3.out).mono ?_); rintro e w31 ⟨rfl, hb⟩; refine ⟨_, rfl, ?_⟩; have n0_ := zK (zM (g := gb367) (o := .cells #[.string a0_0, .int .i64 a0_1, .int .i64 a0_2, .int .i64 a0_3] 47 (0, 0)) yy hb); have n1_ := zK (zM (g := gb368) (o := .cells #[.string (⟨#[]⟩ : ByteArray), .int .i64 0, .int .i64 0, .int .i64 0] 47 (0, 0)) (yS BK368.out) hb); have n2_ := zK (zL ya1 hb); clear BK367; clear BK368; clear HB; have BK367 := n0_; have BK368 := n1_; have HB := n2_; clear n0_ n1_ n2_; (try clear hb); (try clear hb2); (try clear hk); (try clear hi); have hcz32_0 : w31.cell? ⟨gb367, 0, none⟩ = some (.string a0_0) := (zI BK367.out 0).trans rfl; have hcz32_1 : w31.cell? ⟨gb367, 1, none⟩ = some (.int .i64 a0_1) := (zI BK367.out 1).trans rfl; have hcz32_2 : w31.cell? ⟨gb367, 2, none⟩ = some (.int .i64 a0_2) := (zI BK367.out 2).trans rfl; have hcz32_3 : w31.cell? ⟨gb367, 3, none⟩ = some (.int .i64 a0_3) := (zI BK367.out 3).trans rfl; have hfz32_0 := zH BK367.out 0; have hfz32_1 := zH BK367.out 1; have hfz32_2 := zH BK367.out 2; have hfz32_3 := zH BK367.out 3; have p372 : 0 ≤ (a0_2 : Int) := zo; have q372 : a0_2 < (l1.length : Int) := zo; obtain ⟨ad372, e372, hx372_0⟩ := Kd.at_int HR1.out a0_2 p372 q372; cases e372; replace hx372_0 := zt HB.out hx372_0; replace p372 := eq_true p372; replace q372 := eq_true q372; have hcz33_0 : w31.cell? ⟨gb368, 0, none⟩ = some (.string (⟨#[]⟩ : ByteArray)) := (zI BK368.out 0).trans rfl; have hcz33_1 : w31.cell? ⟨gb368, 1, none⟩ = some (.int .i64 0) := (zI BK368.out 1).trans rfl; have hcz33_2 : w31.cell? ⟨gb368, 2, none⟩ = some (.int .i64 0) := (zI BK368.out 2).trans rfl; have hcz33_3 : w31.cell? ⟨gb368, 3, none⟩ = some (.int .i64 0) := (zI BK368.out 3).trans rfl; have hfz33_0 := zH BK368.out 0; have hfz33_1 := zH BK368.out 1; have hfz33_2 := zH BK368.out 2; have hfz33_3 := zH BK368.out 3))
     refine bodyPost_ret (results_cell_row rfl _ _ gb368 47 #[.string a0_0, .int .i64 a0_1, .int .i64 (rd l1 a0_2), .int .i64 a0_3] (0, 0) _ rfl (by (with_reducible repeat (first | refine zE ?_ _ | refine zF ?_ | refine zG ?_ _)); refine blk_put (cs := #[.string a0_0, .int .i64 a0_1, .int .i64 (rd l1 a0_2), .int .i64 0]) ?_ 3 _ rfl; (with_reducible repeat (first | refine zE ?_ _ | refine zF ?_ | refine zG ?_ _)); refine blk_put (cs := #[.string a0_0, .int .i64 a0_1, .int .i64 0, .int .i64 0]) ?_ 2 _ rfl; (with_reducible repeat (first | refine zE ?_ _ | refine zF ?_ | refine zG ?_ _)); refine blk_put (cs := #[.string a0_0, .int .i64 0, .int .i64 0, .int .i64 0]) ?_ 1 _ rfl; (with_reducible repeat (first | refine zE ?_ _ | refine zF ?_ | refine zG ?_ _)); refine blk_put (cs := #[.string (⟨#[]⟩ : ByteArray), .int .i64 0, .int .i64 0, .int .i64 0]) ?_ 0 _ rfl; (with_reducible repeat (first | refine zE ?_ _ | refine zF ?_ | refine zG ?_ _)); refine blk_far ?_ NB368_367.out _; (with_reducible repeat (first | refine zE ?_ _ | refine zF ?_ | refine zG ?_ _)); exact BK368.out) Try.underlying47 rfl yi) rfl ?_
     exact ⟨yd, ya1⟩
    ·rw [if_neg c26] at H
     exact absurd H ye1
   ·rw [if_neg c25] at H
    exact absurd H ye1
  ·rw [if_neg c24] at H
   have c24b0 : decide (1 < t369) = false := decide_eq_false c24
   clear c24
   simp only [Option.some.injEq, Prod.mk.injEq] at H
   obtain ⟨rfl, rfl, rfl, rfl⟩ := H
   go_enter Try.func59, Try.ntmps59
   go_wp2_with (first | ((with_reducible refine gate_dst (N := 2) rfl ?_); refine box_event ?hg (N := 2) ?hd (cs := #[.string a0_0, .int .i64 a0_1, .int .i64 a0_2, .int .i64 a0_3]) (t := 47) ?hr ?_; (case hd | hg => rfl); (case hr => exact xxa); intro gb367 hg w34 hbox hb; have n0_ := zK (zL ya hb); have n1_ := zK (hbox); have n2_ := zK ((by rw [hg]; exact (zN ya) : w.heap.size ≤ gb367)); have n3_ := n2_; clear HB; have HB := n0_; have BK367 := n1_; have GW367 := n2_; have GE367 := n3_; clear n0_ n1_ n2_ n3_; clear hb hbox hg) | ((with_reducible refine gate_dst (N := 4) rfl ?_); refine box_event ?hg (N := 4) ?hd (cs := #[.string (⟨#[]⟩ : ByteArray), .int .i64 0, .int .i64 0, .int .i64 0]) (t := 47) ?hr ?_; (case hd | hg => rfl); (case hr => exact xxa); intro gb368 hg w35 hbox hb; have n0_ := zK (zM (g := gb367) (o := .cells #[.string a0_0, .int .i64 a0_1, .int .i64 a0_2, .int .i64 a0_3] 47 (0, 0)) yy hb); have n1_ := zK (zL yn1 hb); have n2_ := zK (hbox); have n3_ := zK ((by rw [hg]; exact (zN yn1) : w.heap.size ≤ gb368)); have n4_ := n3_; have n5_ := zK ((by rw [hg]; exact Nat.ne_of_lt (blk_lt (g := gb367) (o := .cells #[.string a0_0, .int .i64 a0_1, .int .i64 a0_2, .int .i64 a0_3] 47 (0, 0)) yy) : gb367 ≠ gb368)); have n6_ := zK n5_.out.symm; clear BK367; clear HB; have BK367 := n0_; have HB := n1_; have BK368 := n2_; have GW368 := n3_; have GE368 := n4_; have NB367_368 := n5_; have NB368_367 := n6_; clear n0_ n1_ n2_ n3_ n4_ n5_ n6_; clear hb hbox hg; have hnb36 := NB367_368.out; have hnc36 := NB368_367.out; have hcz37_0 : w35.cell? ⟨gb367, 0, none⟩ = some (.string a0_0) := (zI BK367.out 0).trans rfl; have hcz37_1 : w35.cell? ⟨gb367, 1, none⟩ = some (.int .i64 a0_1) := (zI BK367.out 1).trans rfl; have hcz37_2 : w35.cell? ⟨gb367, 2, none⟩ = some (.int .i64 a0_2) := (zI BK367.out 2).trans rfl; have hcz37_3 : w35.cell? ⟨gb367, 3, none⟩ = some (.int .i64 a0_3) := (zI BK367.out 3).trans rfl; have hfz37_0 := zH BK367.out 0; have hfz37_1 := zH BK367.out 1; have hfz37_2 := zH BK367.out 2; have hfz37_3 := zH BK367.out 3) | ((with_reducible refine gate_callee (f := 83) rfl ?_); refine goesL_ (some 8) rfl rfl Try.func83 yi rfl #[.string a0_0] rfl yb ?_; (with_reducible refine (impl_operands.calls k a0_0 t369 _ A3.out).mono ?_); rintro e w38 ⟨rfl, hb⟩; refine ⟨_, rfl, ?_⟩; have n0_ := zK (zM (g := gb367) (o := .cells #[.string a0_0, .int .i64 a0_1, .int .i64 a0_2, .int .i64 a0_3] 47 (0, 0)) yy hb); have n1_ := zK (zM (g := gb368) (o := .cells #[.string (⟨#[]⟩ : ByteArray), .int .i64 0, .int .i64 0, .int .i64 0] 47 (0, 0)) (yS BK368.out) hb); have n2_ := zK (zL ya1 hb); clear BK367; clear BK368; clear HB; have BK367 := n0_; have BK368 := n1_; have HB := n2_; clear n0_ n1_ n2_; (try clear hb); (try clear hb2); (try clear hk); (try clear hi); have hcz39_0 : w38.cell? ⟨gb367, 0, none⟩ = some (.string a0_0) := (zI BK367.out 0).trans rfl; have hcz39_1 : w38.cell? ⟨gb367, 1, none⟩ = some (.int .i64 a0_1) := (zI BK367.out 1).trans rfl; have hcz39_2 : w38.cell? ⟨gb367, 2, none⟩ = some (.int .i64 a0_2) := (zI BK367.out 2).trans rfl; have hcz39_3 : w38.cell? ⟨gb367, 3, none⟩ = some (.int .i64 a0_3) := (zI BK367.out 3).trans rfl; have hfz39_0 := zH BK367.out 0; have hfz39_1 := zH BK367.out 1; have hfz39_2 := zH BK367.out 2; have hfz39_3 := zH BK367.out 3; have hcz40_0 : w38.cell? ⟨gb368, 0, none⟩ = some (.string (⟨#[]⟩ : ByteArray)) := (zI BK368.out 0).trans rfl; have hcz40_1 : w38.cell? ⟨gb368, 1, none⟩ = some (.int .i64 0) := (zI BK368.out 1).trans rfl; have hcz40_2 : w38.cell? ⟨gb368, 2, none⟩ = some (.int .i64 0) := (zI BK368.out 2).trans rfl; have hcz40_3 : w38.cell? ⟨gb368, 3, none⟩ = some (.int .i64 0) := (zI BK368.out 3).trans rfl; have hfz40_0 := zH BK368.out 0; have hfz40_1 := zH BK368.out 1; have hfz40_2 := zH BK368.out 2; have hfz40_3 := zH BK368.out 3))
   refine bodyPost_ret (results_cell_row rfl _ _ gb368 47 #[.string a0_0, .int .i64 a0_1, .int .i64 a0_2, .int .i64 a0_3] (0, 0) _ rfl (by (with_reducible repeat (first | refine zE ?_ _ | refine zF ?_ | refine zG ?_ _)); refine blk_put (cs := #[.string a0_0, .int .i64 a0_1, .int .i64 a0_2, .int .i64 0]) ?_ 3 _ rfl; (with_reducible repeat (first | refine zE ?_ _ | refine zF ?_ | refine zG ?_ _)); refine blk_put (cs := #[.string a0_0, .int .i64 a0_1, .int .i64 0, .int .i64 0]) ?_ 2 _ rfl; (with_reducible repeat (first | refine zE ?_ _ | refine zF ?_ | refine zG ?_ _)); refine blk_put (cs := #[.string a0_0, .int .i64 0, .int .i64 0, .int .i64 0]) ?_ 1 _ rfl; (with_reducible repeat (first | refine zE ?_ _ | refine zF ?_ | refine zG ?_ _)); refine blk_put (cs := #[.string (⟨#[]⟩ : ByteArray), .int .i64 0, .int .i64 0, .int .i64 0]) ?_ 0 _ rfl; (with_reducible repeat (first | refine zE ?_ _ | refine zF ?_ | refine zG ?_ _)); exact BK368.out) Try.underlying47 rfl yi) rfl ?_
   exact ⟨yd, ya1⟩

/-! ### impl_kept: function 106 -/
mutual
def impl_kept.l0 : Nat → List (S47) → List Bool → Int → Option ((List (S47)))
 | 0, _, _, _ => none
 | k + 1, x0, x5, x6 => if x6 ≥ 0 then (if 0 ≤ x6 then (if x6 < (x0.length : Int) then ((impl_Node_of.f k ((rd_T47 x0 x6).f0) ((rd_T47 x0 x6).f1) ((rd_T47 x0 x6).f2) ((rd_T47 x0 x6).f3)).bind fun t378 => (impl_kept.l1 k x0 x5 x6 t378 (t378.length : Int) 0)) else (none)) else (none)) else (if 0 ≤ (x0.length : Int) then (if ((x0.length : Int) : Int).toNat ≤ 35184372088832 then (impl_kept.l2 k x5 (([] : List (S47))) (List.replicate ((x0.length : Int) : Int).toNat 0) x0 (x0.length : Int) 0) else (none)) else (none))
def impl_kept.l1 : Nat → List (S47) → List Bool → Int → List Int → Int → Int → Option ((List (S47)))
 | 0, _, _, _, _, _, _ => none
 | k + 1, x0, x5, x6, x28, x29, x30 => if x30 < x29 then (if 0 ≤ x30 then (if x30 < (x28.length : Int) then (if 0 ≤ (rd x28 x30) then (if (rd x28 x30) < (x5.length : Int) then (if rdOf false x5 (rd x28 x30) = true then (impl_kept.l1 k x0 (x5.set ((rd x28 x30) : Int).toNat true) x6 x28 x29 (wrap64 (x30 + 1))) else (if 0 ≤ x6 then (if x6 < (x5.length : Int) then (impl_kept.l1 k x0 (x5.set ((rd x28 x30) : Int).toNat (rdOf false x5 x6)) x6 x28 x29 (wrap64 (x30 + 1))) else (none)) else (none))) else (none)) else (none)) else (none)) else (none)) else (impl_kept.l0 k x0 x5 (wrap64 (x6 - 1)))
def impl_kept.l2 : Nat → List Bool → List (S47) → List Int → List (S47) → Int → Int → Option ((List (S47)))
 | 0, _, _, _, _, _, _ => none
 | k + 1, x5, x9, x10, x52, x53, x54 => if x54 < x53 then (if 0 ≤ x54 then (if x54 < (x52.length : Int) then (if x54 < (x5.length : Int) then (if rdOf false x5 x54 = true then (if x54 < (x10.length : Int) then ((some (x10.set (x54 : Int).toNat (x9.length : Int) : List Int)).bind fun y395 => ((impl_Node_renamed.f k ((rd_T47 x52 x54).f0) ((rd_T47 x52 x54).f1) ((rd_T47 x52 x54).f2) ((rd_T47 x52 x54).f3) y395).bind fun bt396 => (if x9.length < 3518437208883 then (impl_kept.l2 k x5 (x9 ++ [(⟨bt396.1, bt396.2.1, bt396.2.2.1, bt396.2.2.2⟩ : S47)]) y395 x52 x53 (wrap64 (x54 + 1))) else (none)))) else (none)) else (impl_kept.l2 k x5 x9 x10 x52 x53 (wrap64 (x54 + 1)))) else (none)) else (none)) else (none)) else (some x9)
end
def impl_kept.f (k : Nat) (l0 : List (S47)) (a1 : Int) : Option ((List (S47))) := if 0 ≤ (l0.length : Int) then (if ((l0.length : Int) : Int).toNat ≤ 281474976710656 then ((some (List.replicate ((l0.length : Int) : Int).toNat false : List Bool)).bind fun y373 => (if 0 ≤ a1 then (if a1 < (y373.length : Int) then (impl_kept.l0 k l0 (y373.set (a1 : Int).toNat true) a1) else (none)) else (none))) else (none)) else (none)
set_option maxHeartbeats 8000000 in
set_option maxRecDepth 100000 in
theorem impl_kept.calls (k : Nat) (A0 : Option Addr) (c0 : Nat) (l0 : List (S47)) (a1 : Int) (r : List (S47)) (w : World) (hr0 : Kd.C k47 w A0 l0.length l0) (hc0 : l0.length ≤ c0) (h : impl_kept.f k l0 a1 = some r) :
  Calls Try.prog 106 #[.slice A0 l0.length c0, .int .i64 a1] w fun e w' => ∃ v0_ : Value, e = .returned (v0_) ∧ Kd.R k47 47 w' w.heap.size (fun _ => True) v0_ r ∧ Below w.heap.size w w' := by
 have hu47 := Try.underlying47
 have HR0 := zK hr0
 have HC0 := zK hc0
 clear hr0 hc0
 have HB := zK (Below.refl w.heap.size w)
 have H : (if 0 ≤ (l0.length : Int) then (if ((l0.length : Int) : Int).toNat ≤ 281474976710656 then ((some (List.replicate ((l0.length : Int) : Int).toNat false : List Bool)).bind fun y373 => (if 0 ≤ a1 then (if a1 < (y373.length : Int) then (impl_kept.l0 k l0 (y373.set (a1 : Int).toNat true) a1) else (none)) else (none))) else (none)) else (none)) = some r := h
 clear h
 by_cases c3 : 0 ≤ (l0.length : Int)
 ·rw [if_pos c3] at H
  have c3b0 := eq_true c3
  have c3b1 : decide (0 ≤ (l0.length : Int)) = true := decide_eq_true c3
  clear c3
  by_cases c4 : ((l0.length : Int) : Int).toNat ≤ 281474976710656
  ·rw [if_pos c4] at H
   have c4b0 := eq_true c4
   have c4b1 : decide (((l0.length : Int) : Int).toNat ≤ 281474976710656) = true := decide_eq_true c4
   clear c4
   obtain ⟨y373, hy373⟩ : ∃ y_ : List Bool, y_ = (List.replicate ((l0.length : Int) : Int).toNat false) := ⟨_, rfl⟩
   replace H : (if 0 ≤ a1 then (if a1 < (y373.length : Int) then (impl_kept.l0 k l0 (y373.set (a1 : Int).toNat true) a1) else (none)) else (none)) = some r := by have hy_ := hy373; exact xH
   have Ny373 := zK hy373
   clear hy373
   by_cases c5 : 0 ≤ a1
   ·rw [if_pos c5] at H
    have c5b0 : decide (0 ≤ a1) = true := decide_eq_true c5
    clear c5
    by_cases c6 : a1 < (y373.length : Int)
    ·rw [if_pos c6] at H
     have c6b0 : decide (a1 < (y373.length : Int)) = true := decide_eq_true c6
     clear c6
     obtain ⟨y376, hy376⟩ : ∃ y_ : List Bool, y_ = (y373.set (a1 : Int).toNat true) := ⟨_, rfl⟩
     replace H : (impl_kept.l0 k l0 y376 a1) = some r := by have hy_ := hy376; exact xH
     have Ny376 := zK hy376
     clear hy376
     have H' := zK H
     clear H
     go_enter Try.func106, Try.ntmps106
     go_wp2_with (first | ((with_reducible refine gate_dst (N := 15) rfl ?_); refine Kd.R_make Kd.bool _ 4 rfl (N := 15) rfl 108 _ _ rfl (l0.length : Int) rfl rfl Try.underlying108 (.bool false) 1 info4 rfl yp1 (by omega) false (ok := fun _ => True) (okp := fun _ => True) rfl (fun _ hk => hk) trivial (zo) (Nat.le_trans (Nat.mul_le_mul_right _ (zo : (l0.length : Int).toNat ≤ 281474976710656)) (by omega)) (Below.refl _ _) (Nat.le_refl _) ?_; intro v374 w8 ho9 hb hg_ hnew_; clear hg_ hnew_; (first | rw [← Ny373.out] at ho9 | (simp only [Int.reduceToNat] at ho9; rw [← Ny373.out] at ho9)); have n0_ := zK (Kd.R_lower ho9 (zN ya)); have n1_ := zK (zL ya hb); clear HB; have HO375 := n0_; have HB := n1_; clear n0_ n1_; clear hb ho9; have p7 : 0 ≤ (a1 : Int) := zo; have q7 : (a1 : Int) < ((y373.length : Int) : Int) := zo; obtain ⟨go7, co7, eo7, gb7, gl7, cl7, HG7⟩ := Kd.R_form HO375.out (by omega); (first | cases eo7 | (injection eo7 with ea_ en_ ec_; (first | subst ea_ | (injection ea_ with ea_; subst ea_)); subst ec_; clear en_)); have GB7 := zK gb7; have GG7 := zK HG7; clear gb7 gl7 HG7; obtain ⟨hx7_0, hf7_0⟩ := Kd.R_celln false HO375.out (a1 : Int) p7 q7; replace p7 := eq_true p7; replace q7 := eq_true q7; obtain ⟨hy10_, hz10_⟩ := Kd.R_celln false HO375.out (a1 : Int) (zo) (zo); have HP10 := Kd.R_putg HO375.out (a1 : Int) true) | ((with_reducible refine gate_store (t := 4) (p := 18) rfl ?_); refine store_event (t := 4) (p := 18) (v := ?vo_w11) (w1 := (w8.setCell ⟨go7, (a1 : Int).toNat, none⟩ (.bool true))) ?hg ?ho ?hn ?hr ?_; (case ho => rfl); (case hg => rfl); (case hn => rfl); (case hr => exact xxa); intro w11 hw; have hg : w8.grownBy w11 (some go7) := (by rw [hw]; exact HP10.2); have hp_ : Kd.R Kd.bool 4 w11 w.heap.size (fun _ => True) (.slice (some ⟨go7, 0, none⟩) y373.length co7) y376 := (by rw [hw, Ny376.out]; exact HP10.1); clear HP10; have n0_ := zK (hp_); have n1_ := zK ((by rw [hw]; exact zD (HB.out) GB7.out : Below w.heap.size w w11)); clear HO375; clear HB; have HO375 := n0_; have HB := n1_; clear n0_ n1_; clear hg hw hp_))
     go_loopg [6] k (fun kq v6 w' => ∃ (x5_1 : List Bool) (x6_1 : Int), v6 = .int .i64 x6_1 ∧ Aside0 (impl_kept.l0 kq l0 x5_1 x6_1 = some r) ∧ Aside0 (kq ≤ k) ∧ Aside0 (Kd.R Kd.bool 4 w' w.heap.size (fun _ => True) (.slice (some ⟨go7, 0, none⟩) y373.length co7) x5_1) ∧ Aside0 (Below w.heap.size w w'))
     case atStart => exact ⟨(y376), (a1), ye, H', ⟨Nat.le_refl _⟩, ⟨yR HO375.out⟩, ⟨ya⟩⟩
     case round =>
      clear H'
      try clear c1
      try clear p2
      try clear c3
      try clear c3b0
      try clear c3b1
      try clear c4
      try clear c4b0
      try clear c4b1
      try clear c5
      try clear c5b0
      try clear c6
      try clear c6b0
      try clear p7
      try clear q7
      try clear hx7
      try clear hf7
      try clear c10
      try clear hx7_0
      try clear p7
      try clear q7
      obtain ⟨x5_1, x6_1, rfl, HA, HK1, HO_5, HB⟩ := hrel
      have hl5_1 := (Kd.R_reads' HO_5.out).1
      rw [hl5_1] at HO_5
      (try simp only [hl5_1])
      cases gk with
      | zero => exact absurd HA.out (by simp [impl_kept.l0])
      | succ k1 =>
       have H := HA.out
       clear HA
       simp only [impl_kept.l0] at H
       by_cases c12 : x6_1 ≥ 0
       ·rw [if_pos c12] at H
        have c12b0 : decide (0 ≤ x6_1) = true := decide_eq_true c12
        clear c12
        by_cases c13 : 0 ≤ x6_1
        ·rw [if_pos c13] at H
         have c13b0 : decide (0 ≤ x6_1) = true := decide_eq_true c13
         clear c13
         by_cases c14 : x6_1 < (l0.length : Int)
         ·rw [if_pos c14] at H
          have c14b0 : decide (x6_1 < (l0.length : Int)) = true := decide_eq_true c14
          clear c14
          replace H := Option.bind_eq_some_iff.mp H
          obtain ⟨t378, A150, H⟩ := H
          replace H : (impl_kept.l1 k1 l0 x5_1 x6_1 t378 (t378.length : Int) 0) = some r := H
          have A15 := zK A150
          clear A150
          have H' := zK H
          clear H
          have p377 : 0 ≤ (x6_1 : Int) := zo
          have q377 : x6_1 < (l0.length : Int) := zo
          obtain ⟨ad377, e377, hx377_0, hx377_1, hx377_2, hx377_3⟩ := at_T47 HR0.out x6_1 p377 q377
          cases e377
          replace hx377_0 := zt HB.out hx377_0
          replace hx377_1 := zt HB.out hx377_1
          replace hx377_2 := zt HB.out hx377_2
          replace hx377_3 := zt HB.out hx377_3
          replace p377 := eq_true p377
          replace q377 := eq_true q377
          go_wp2_with (first | ((with_reducible refine gate_callee (f := 100) rfl ?_); refine goesL_ (some 28) rfl rfl Try.func100 yi rfl #[.agg #[.string ((rd_T47 l0 x6_1).f0), .int .i64 ((rd_T47 l0 x6_1).f1), .int .i64 ((rd_T47 l0 x6_1).f2), .int .i64 ((rd_T47 l0 x6_1).f3)]] rfl yb ?_; (with_reducible refine (impl_Node_of.calls k1 ((rd_T47 l0 x6_1).f0) ((rd_T47 l0 x6_1).f1) ((rd_T47 l0 x6_1).f2) ((rd_T47 l0 x6_1).f3) t378 _ A15.out).mono ?_); rintro e w16 ⟨v379, rfl, ho0, hb⟩; refine ⟨_, rfl, ?_⟩; have n0_ := zK (Kd.R_below yj hb); have n1_ := zK (Kd.R_lower ho0 (zN ya)); have n2_ := zK (zL ya hb); clear HO_5; clear HB; have HO_5 := n0_; have HO380 := n1_; have HB := n2_; clear n0_ n1_ n2_; (try clear hb); (try clear hb2); (try clear hk); (try clear hi); (try clear ho0); obtain ⟨Ao17, co17, eo17⟩ := Kd.R_slice HO380.out; subst eo17))
          go_loopg [30] k1 (fun kq v30 w' => ∃ (x5_2 : List Bool) (x30_2 : Int), v30 = .int .i64 x30_2 ∧ Aside0 (impl_kept.l1 kq l0 x5_2 x6_1 t378 (t378.length : Int) x30_2 = some r) ∧ Aside0 (kq ≤ k1) ∧ Aside0 (Kd.R Kd.bool 4 w' w.heap.size (fun _ => True) (.slice (some ⟨go7, 0, none⟩) x5_1.length co7) x5_2) ∧ Aside0 (Kd.R (Kd.int .i64) 3 w' w.heap.size (fun _ => True) (.slice Ao17 t378.length co17) t378) ∧ Aside0 (Below w.heap.size w w'))
          case atStart => exact ⟨(x5_1), (0), ye, H', ⟨Nat.le_refl _⟩, ⟨yq1⟩, ⟨by (try simp only [hl5_1]); (with_reducible repeat (first | apply Kd.R_alloc | apply Kd.R_drewN | apply Kd.R_drew)); exact HO380.out⟩, ⟨ya⟩⟩
          case round =>
           clear H'
           try clear c1
           try clear p2
           try clear c3
           try clear c3b0
           try clear c3b1
           try clear p3
           try clear q3
           try clear hx3
           try clear c4
           try clear c4b0
           try clear c4b1
           try clear c5
           try clear c5b0
           try clear c6
           try clear c6b0
           try clear p7
           try clear q7
           try clear hx7
           try clear hf7
           try clear c10
           try clear c12
           try clear c12b0
           try clear c13
           try clear c13b0
           try clear c14
           try clear c14b0
           try clear hx377_0
           try clear hx377_1
           try clear hx377_2
           try clear hx377_3
           try clear hx7_0
           try clear p2
           try clear p377
           try clear p7
           try clear q377
           try clear q7
           obtain ⟨x5_2, x30_2, rfl, HA, HK2, HO_5, HO_28, HB⟩ := hrel
           have hl5_2 := (Kd.R_reads' HO_5.out).1
           rw [hl5_2] at HO_5
           (try simp only [hl5_2])
           (try simp only [hl5_2] at HO_28)
           cases gk with
           | zero => exact absurd HA.out (by simp [impl_kept.l1])
           | succ k2 =>
            have H := HA.out
            clear HA
            simp only [impl_kept.l1] at H
            by_cases c18 : x30_2 < (t378.length : Int)
            ·rw [if_pos c18] at H
             have c18b0 : decide (x30_2 < (t378.length : Int)) = true := decide_eq_true c18
             clear c18
             by_cases c19 : 0 ≤ x30_2
             ·rw [if_pos c19] at H
              have c19b0 : decide (0 ≤ x30_2) = true := decide_eq_true c19
              clear c19
              by_cases c20 : x30_2 < (t378.length : Int)
              ·rw [if_pos c20] at H
               have c20b0 : decide (x30_2 < (t378.length : Int)) = true := decide_eq_true c20
               clear c20
               by_cases c21 : 0 ≤ (rd t378 x30_2)
               ·rw [if_pos c21] at H
                have c21b0 : decide (0 ≤ (rd t378 x30_2)) = true := decide_eq_true c21
                clear c21
                by_cases c22 : (rd t378 x30_2) < (x5_2.length : Int)
                ·rw [if_pos c22] at H
                 have c22b0 : decide ((rd t378 x30_2) < (x5_2.length : Int)) = true := decide_eq_true c22
                 clear c22
                 obtain ⟨bq23, hbq23⟩ : ∃ b_ : Bool, b_ = (rdOf false x5_2 (rd t378 x30_2)) := ⟨_, rfl⟩
                 replace H : (if bq23 = true then (impl_kept.l1 k2 l0 (x5_2.set ((rd t378 x30_2) : Int).toNat true) x6_1 t378 (t378.length : Int) (wrap64 (x30_2 + 1))) else (if 0 ≤ x6_1 then (if x6_1 < (x5_2.length : Int) then (impl_kept.l1 k2 l0 (x5_2.set ((rd t378 x30_2) : Int).toNat (rdOf false x5_2 x6_1)) x6_1 t378 (t378.length : Int) (wrap64 (x30_2 + 1))) else (none)) else (none))) = some r := by rw [← hbq23] at H; exact H
                 have Nbq23 := zK hbq23
                 clear hbq23
                 by_cases c24 : bq23 = true
                 ·subst c24
                  rw [if_pos rfl] at H
                  obtain ⟨y383, hy383⟩ : ∃ y_ : List Bool, y_ = (x5_2.set ((rd t378 x30_2) : Int).toNat true) := ⟨_, rfl⟩
                  replace H : (impl_kept.l1 k2 l0 y383 x6_1 t378 (t378.length : Int) (wrap64 (x30_2 + 1))) = some r := by have hy_ := hy383; exact xH
                  have Ny383 := zK hy383
                  clear hy383
                  have H' := zK H
                  clear H
                  have p381 : 0 ≤ (x30_2 : Int) := zo
                  have q381 : x30_2 < (t378.length : Int) := zo
                  obtain ⟨ad381, e381, hx381_0⟩ := Kd.at_int (Kd.R_reads' HO_28.out).2.2 x30_2 p381 q381
                  cases e381
                  replace p381 := eq_true p381
                  replace q381 := eq_true q381
                  have p382 : 0 ≤ ((rd t378 x30_2) : Int) := zo
                  have q382 : (rd t378 x30_2) < (x5_2.length : Int) := zo
                  obtain ⟨ad382, e382, hx382_0⟩ := Kd.at_bool (Kd.R_reads' HO_5.out).2.2 (rd t378 x30_2) p382 q382
                  (try rw [← Nbq23.out] at hx382_0)
                  obtain rfl : (⟨go7, 0, none⟩ : Addr) = ad382 := (by injection e382)
                  (first | simp only [add_plain] at hx382_0 | simp only [add_at] at hx382_0 | simp only [Addr.add, Nat.zero_add] at hx382_0 | skip)
                  replace p382 := eq_true p382
                  replace q382 := eq_true q382
                  have p25 : 0 ≤ ((rd t378 x30_2) : Int) := zo
                  have q25 : ((rd t378 x30_2) : Int) < ((x5_2.length : Int) : Int) := zo
                  obtain ⟨hx25_0, hf25_0⟩ := Kd.R_celln false HO_5.out ((rd t378 x30_2) : Int) p25 q25
                  replace p25 := eq_true p25
                  replace q25 := eq_true q25
                  have HP26 := Kd.R_putg HO_5.out ((rd t378 x30_2) : Int) true
                  go_wp2_with (first | ((with_reducible refine gate_store (t := 4) (p := 46) rfl ?_); refine store_event (t := 4) (p := 46) (v := ?vo_w27) (w1 := (wr.setCell ⟨go7, ((rd t378 x30_2) : Int).toNat, none⟩ (.bool true))) ?hg ?ho ?hn ?hr ?_; (case ho => rfl); (case hg => rfl); (case hn => rfl); (case hr => exact xxa); intro w27 hw; have hg : wr.grownBy w27 (some go7) := (by rw [hw]; exact HP26.2); have hp_ : Kd.R Kd.bool 4 w27 w.heap.size (fun _ => True) (.slice (some ⟨go7, 0, none⟩) x5_2.length co7) y383 := (by rw [hw, Ny383.out]; exact HP26.1); clear HP26; have n0_ := zK (hp_); have n1_ := zK (Kd.R_over' (v := (.slice (some ⟨go7, 0, none⟩) x5_2.length co7)) (yR HO_28.out) (Kd.R_typed HO_5.out) yp1 hg); have n2_ := zK ((by rw [hw]; exact zD (HB.out) GB7.out : Below w.heap.size w w27)); clear HO_5; clear HO_28; clear HB; have HO_5 := n0_; have HO_28 := n1_; have HB := n2_; clear n0_ n1_ n2_; clear hg hw hp_))
                  (try simp only [← hl5_2])
                  go_roundg k2
                  case measure => have := HK1.out; have := HK2.out; omega
                  case rel => exact ⟨(y383), (wrap64 (x30_2 + 1)), ye, H', ⟨yx⟩, ⟨yr1⟩, ⟨by (try simp only [hl5_1]); (try simp only [hl5_2]); (with_reducible repeat (first | apply Kd.R_alloc | apply Kd.R_drewN | apply Kd.R_drew)); exact HO_28.out⟩, ⟨ya⟩⟩
                 ·replace c24 := Bool.eq_false_iff.mpr c24
                  subst c24
                  rw [if_neg (show ¬ (false = true) by decide)] at H
                  by_cases c28 : 0 ≤ x6_1
                  ·rw [if_pos c28] at H
                   have c28b0 : decide (0 ≤ x6_1) = true := decide_eq_true c28
                   clear c28
                   by_cases c29 : x6_1 < (x5_2.length : Int)
                   ·rw [if_pos c29] at H
                    have c29b0 : decide (x6_1 < (x5_2.length : Int)) = true := decide_eq_true c29
                    clear c29
                    obtain ⟨y385, hy385⟩ : ∃ y_ : List Bool, y_ = (x5_2.set ((rd t378 x30_2) : Int).toNat (rdOf false x5_2 x6_1)) := ⟨_, rfl⟩
                    replace H : (impl_kept.l1 k2 l0 y385 x6_1 t378 (t378.length : Int) (wrap64 (x30_2 + 1))) = some r := by have hy_ := hy385; exact xH
                    have Ny385 := zK hy385
                    clear hy385
                    have H' := zK H
                    clear H
                    have p381 : 0 ≤ (x30_2 : Int) := zo
                    have q381 : x30_2 < (t378.length : Int) := zo
                    obtain ⟨ad381, e381, hx381_0⟩ := Kd.at_int (Kd.R_reads' HO_28.out).2.2 x30_2 p381 q381
                    cases e381
                    replace p381 := eq_true p381
                    replace q381 := eq_true q381
                    have p382 : 0 ≤ ((rd t378 x30_2) : Int) := zo
                    have q382 : (rd t378 x30_2) < (x5_2.length : Int) := zo
                    obtain ⟨ad382, e382, hx382_0⟩ := Kd.at_bool (Kd.R_reads' HO_5.out).2.2 (rd t378 x30_2) p382 q382
                    (try rw [← Nbq23.out] at hx382_0)
                    obtain rfl : (⟨go7, 0, none⟩ : Addr) = ad382 := (by injection e382)
                    (first | simp only [add_plain] at hx382_0 | simp only [add_at] at hx382_0 | simp only [Addr.add, Nat.zero_add] at hx382_0 | skip)
                    replace p382 := eq_true p382
                    replace q382 := eq_true q382
                    have p384 : 0 ≤ (x6_1 : Int) := zo
                    have q384 : x6_1 < (x5_2.length : Int) := zo
                    obtain ⟨ad384, e384, hx384_0⟩ := Kd.at_bool (Kd.R_reads' HO_5.out).2.2 x6_1 p384 q384
                    (try rw [← Nbq23.out] at hx384_0)
                    obtain rfl : (⟨go7, 0, none⟩ : Addr) = ad384 := (by injection e384)
                    (first | simp only [add_plain] at hx384_0 | simp only [add_at] at hx384_0 | simp only [Addr.add, Nat.zero_add] at hx384_0 | skip)
                    replace p384 := eq_true p384
                    replace q384 := eq_true q384
                    have p30 : 0 ≤ ((rd t378 x30_2) : Int) := zo
                    have q30 : ((rd t378 x30_2) : Int) < ((x5_2.length : Int) : Int) := zo
                    obtain ⟨hx30_0, hf30_0⟩ := Kd.R_celln false HO_5.out ((rd t378 x30_2) : Int) p30 q30
                    replace p30 := eq_true p30
                    replace q30 := eq_true q30
                    have HP31 := Kd.R_putg HO_5.out ((rd t378 x30_2) : Int) (rdOf false x5_2 x6_1)
                    go_wp2_with (first | ((with_reducible refine gate_store (t := 4) (p := 46) rfl ?_); refine store_event (t := 4) (p := 46) (v := ?vo_w32) (w1 := (wr.setCell ⟨go7, ((rd t378 x30_2) : Int).toNat, none⟩ (.bool (rdOf false x5_2 x6_1)))) ?hg ?ho ?hn ?hr ?_; (case ho => rfl); (case hg => rfl); (case hn => rfl); (case hr => exact xxa); intro w32 hw; have hg : wr.grownBy w32 (some go7) := (by rw [hw]; exact HP31.2); have hp_ : Kd.R Kd.bool 4 w32 w.heap.size (fun _ => True) (.slice (some ⟨go7, 0, none⟩) x5_2.length co7) y385 := (by rw [hw, Ny385.out]; exact HP31.1); clear HP31; have n0_ := zK (hp_); have n1_ := zK (Kd.R_over' (v := (.slice (some ⟨go7, 0, none⟩) x5_2.length co7)) (yR HO_28.out) (Kd.R_typed HO_5.out) yp1 hg); have n2_ := zK ((by rw [hw]; exact zD (HB.out) GB7.out : Below w.heap.size w w32)); clear HO_5; clear HO_28; clear HB; have HO_5 := n0_; have HO_28 := n1_; have HB := n2_; clear n0_ n1_ n2_; clear hg hw hp_))
                    (try simp only [← hl5_2])
                    go_roundg k2
                    case measure => have := HK1.out; have := HK2.out; omega
                    case rel => exact ⟨(y385), (wrap64 (x30_2 + 1)), ye, H', ⟨yx⟩, ⟨yr1⟩, ⟨by (try simp only [hl5_1]); (try simp only [hl5_2]); (with_reducible repeat (first | apply Kd.R_alloc | apply Kd.R_drewN | apply Kd.R_drew)); exact HO_28.out⟩, ⟨ya⟩⟩
                   ·rw [if_neg c29] at H
                    exact absurd H ye1
                  ·rw [if_neg c28] at H
                   exact absurd H ye1
                ·rw [if_neg c22] at H
                 exact absurd H ye1
               ·rw [if_neg c21] at H
                exact absurd H ye1
              ·rw [if_neg c20] at H
               exact absurd H ye1
             ·rw [if_neg c19] at H
              exact absurd H ye1
            ·rw [if_neg c18] at H
             have c18b0 : decide (x30_2 < (t378.length : Int)) = false := decide_eq_false c18
             clear c18
             have H' := zK H
             clear H
             go_wp2
             (try simp only [← hl5_1, ← hl5_2])
             go_roundg k2
             case measure => have := HK1.out; have := HK2.out; omega
             case rel => exact ⟨(x5_2), (wrap64 (x6_1 - 1)), ye, H', ⟨yx⟩, ⟨yr1⟩, ⟨ya⟩⟩
         ·rw [if_neg c14] at H
          exact absurd H ye1
        ·rw [if_neg c13] at H
         exact absurd H ye1
       ·rw [if_neg c12] at H
        have c12b0 : decide (0 ≤ x6_1) = false := decide_eq_false c12
        clear c12
        obtain ⟨y386, hy386⟩ : ∃ y_ : List (S47), y_ = (([] : List (S47))) := ⟨_, rfl⟩
        replace H : (if 0 ≤ (l0.length : Int) then (if ((l0.length : Int) : Int).toNat ≤ 35184372088832 then (impl_kept.l2 k1 x5_1 y386 (List.replicate ((l0.length : Int) : Int).toNat 0) l0 (l0.length : Int) 0) else (none)) else (none)) = some r := by have hy_ := hy386; exact xH
        have Ny386 := zK hy386
        clear hy386
        by_cases c33 : 0 ≤ (l0.length : Int)
        ·rw [if_pos c33] at H
         have c33b0 := eq_true c33
         have c33b1 : decide (0 ≤ (l0.length : Int)) = true := decide_eq_true c33
         clear c33
         by_cases c34 : ((l0.length : Int) : Int).toNat ≤ 35184372088832
         ·rw [if_pos c34] at H
          have c34b0 := eq_true c34
          have c34b1 : decide (((l0.length : Int) : Int).toNat ≤ 35184372088832) = true := decide_eq_true c34
          clear c34
          obtain ⟨y389, hy389⟩ : ∃ y_ : List Int, y_ = (List.replicate ((l0.length : Int) : Int).toNat 0) := ⟨_, rfl⟩
          replace H : (impl_kept.l2 k1 x5_1 y386 y389 l0 (l0.length : Int) 0) = some r := by have hy_ := hy389; exact xH
          have Ny389 := zK hy389
          clear hy389
          have H' := zK H
          clear H
          try go_wp2
          have n0_ := zK (Kd.R_drew HO_5.out)
          have n1_ := zK (zC HB.out)
          clear HO_5
          clear HB
          have HO_5 := n0_
          have HB := n1_
          clear n0_ n1_
          refine start_ (n := 6) (S := fun w' => True) (ds := []) #[false, false, false, false, false, false] yi rfl rfl trivial (fun hHeld => ?_)
          generalize wr.drew = w35 at HO_5 HB hHeld ⊢
          refine pure_ (i := 1) (N := some 49) (v := ?_) (a' := ?_) #[false, true, false, false, false, false] rfl rfl yi (fun _ _ _ h => h) (Or.inl ⟨by rfl, ?_⟩) ?_ ?_
          rotate_left
          ·intro w'
           go_simp
           with_reducible rfl
          rotate_left
          ·simp only [Act.put, z1, z2, z3, i64_w, i32_w]
           rfl
          refine pure_ (i := 2) (N := some 50) (v := ?_) (a' := ?_) #[false, true, true, false, false, false] rfl rfl yi (fun _ _ _ h => h) (Or.inl ⟨by rfl, ?_⟩) ?_ ?_
          rotate_left
          ·intro w'
           go_simp
           with_reducible rfl
          rotate_left
          ·simp only [Act.put, z1, z2, z3, i64_w, i32_w]
           rfl
          refine join_ (σ := Value × Value) 1 #[true, true, true, true, true, false] (fun s_ => [(48, s_.1), (51, s_.2), (9, s_.1)]) (fun s_ w' => (Kd.R k47 47 w' w.heap.size (fun _ => True) s_.1 y386) ∧ (Kd.R (Kd.int .i64) 3 w' w.heap.size (fun _ => True) s_.2 y389) ∧ (Kd.R Kd.bool 4 w' w.heap.size (fun _ => True) (.slice (some ⟨go7, 0, none⟩) x5_1.length co7) x5_1) ∧ (Below w.heap.size w w')) ?_ ?_
          rotate_left
          ·intro hCont
           refine two_ (i := 0) (j := 3) (Ni := some 48) (Nj := some 51) #[true, true, true, false, false, false] #[false, true, true, true, false, false] rfl rfl rfl rfl yi yp1 yp1 (fun K hK => ?_) (fun K hK => ?_)
           ·skip
            refine Kd.R_lit_step k47 _ 47 ?hg (N := 48) ?hd (xs := ([] : List (S47))) (inner := []) (ok := fun _ => True) (okp := fun _ => True) ?hr ?hp (fun _ hk => hk) trivial (Below.refl _ _) (Nat.le_refl _) ye1 ?_; (case hd | hg => rfl); (case hr => exact xxa); (case hp => exact (Reps.none _ _))
            intro v387 w36 ho37 hb hg_ hnew_
            clear hg_ hnew_
            (first | rw [← Ny386.out] at ho37 | (simp only [Int.reduceToNat] at ho37; rw [← Ny386.out] at ho37))
            have n0_ := zK (Kd.R_below yj hb)
            have n1_ := zK (Kd.R_lower ho37 (zN ya))
            have n2_ := zK (zL ya hb)
            clear HO_5
            clear HB
            have HO_5 := n0_
            have HO388 := n1_
            have HB := n2_
            clear n0_ n1_ n2_
            clear hb ho37
            refine hK.out _ _ trivial (fun hHeld => ?_)
            clear hK K
            refine norm_ (a' := ?_) ?_ ?_
            rotate_left
            ·show Act.put _ (some 48) _ = _
             simp only [Act.put, z1, z2, z3, i64_w, i32_w]
             rfl
            refine pure_ (i := 4) (N := some 9) (v := ?_) (a' := ?_) #[true, true, true, false, true, false] rfl rfl yi (fun _ _ _ h => h) (Or.inl ⟨by rfl, ?_⟩) ?_ ?_
            rotate_left
            ·intro w'
             go_simp
             with_reducible rfl
            rotate_left
            ·simp only [Act.put, z1, z2, z3, i64_w, i32_w]
             rfl
            refine one_ (i := 3) (N := some 51) #[true, true, true, true, true, false] rfl rfl yi yp1 (fun K hK => ?_)
            refine Kd.R_make_step (Kd.int .i64) _ 3 (by rfl) (N := 51) rfl 31 _ _ rfl (l0.length : Int) rfl rfl Try.underlying31 (.int .i64 0) 8 info3 rfl yp1 (by omega) 0 (ok := fun _ => True) (okp := fun _ => True) rfl (fun _ hk => hk) trivial (zo) (Nat.le_trans (Nat.mul_le_mul_right _ (zo : (l0.length : Int).toNat ≤ 35184372088832)) (by omega)) (Below.refl _ _) (Nat.le_refl _) ?_
            intro v390 w38 ho39 hb hg_ hnew_
            clear hg_ hnew_
            (first | rw [← Ny389.out] at ho39 | (simp only [Int.reduceToNat] at ho39; rw [← Ny389.out] at ho39))
            have n0_ := zK (Kd.R_below yj hb)
            have n1_ := zK (Kd.R_below (yR HO388.out) hb)
            have n2_ := zK (Kd.R_lower ho39 (zN ya))
            have n3_ := zK (zL ya hb)
            clear HO_5
            clear HO388
            clear HB
            have HO_5 := n0_
            have HO388 := n1_
            have HO391 := n2_
            have HB := n3_
            clear n0_ n1_ n2_ n3_
            clear hb ho39
            refine hK.out _ _ trivial (fun hHeld => ?_)
            clear hK K
            refine norm_ (a' := ?_) ?_ ?_
            rotate_left
            ·show Act.put _ (some 51) _ = _
             simp only [Act.put, z1, z2, z3, i64_w, i32_w]
             rfl
            exact norm_ (by simp only [putAll, Act.put, z1, z2, z3]) (hCont (v387, v390) _ ⟨(yR HO388.out), (yR HO391.out), yj, ya⟩)
           ·skip
            refine Kd.R_make_step (Kd.int .i64) _ 3 (by rfl) (N := 51) rfl 31 _ _ rfl (l0.length : Int) rfl rfl Try.underlying31 (.int .i64 0) 8 info3 rfl yp1 (by omega) 0 (ok := fun _ => True) (okp := fun _ => True) rfl (fun _ hk => hk) trivial (zo) (Nat.le_trans (Nat.mul_le_mul_right _ (zo : (l0.length : Int).toNat ≤ 35184372088832)) (by omega)) (Below.refl _ _) (Nat.le_refl _) ?_
            intro v390 w36 ho37 hb hg_ hnew_
            clear hg_ hnew_
            (first | rw [← Ny389.out] at ho37 | (simp only [Int.reduceToNat] at ho37; rw [← Ny389.out] at ho37))
            have n0_ := zK (Kd.R_below yj hb)
            have n1_ := zK (Kd.R_lower ho37 (zN ya))
            have n2_ := zK (zL ya hb)
            clear HO_5
            clear HB
            have HO_5 := n0_
            have HO391 := n1_
            have HB := n2_
            clear n0_ n1_ n2_
            clear hb ho37
            refine hK.out _ _ trivial (fun hHeld => ?_)
            clear hK K
            refine norm_ (a' := ?_) ?_ ?_
            rotate_left
            ·show Act.put _ (some 51) _ = _
             simp only [Act.put, z1, z2, z3, i64_w, i32_w]
             rfl
            refine one_ (i := 0) (N := some 48) #[true, true, true, true, false, false] rfl rfl yi yp1 (fun K hK => ?_)
            refine Kd.R_lit_step k47 _ 47 ?hg (N := 48) ?hd (xs := ([] : List (S47))) (inner := []) (ok := fun _ => True) (okp := fun _ => True) ?hr ?hp (fun _ hk => hk) trivial (Below.refl _ _) (Nat.le_refl _) ye1 ?_; (case hd | hg => rfl); (case hr => exact xxa); (case hp => exact (Reps.none _ _))
            intro v387 w38 ho39 hb hg_ hnew_
            clear hg_ hnew_
            (first | rw [← Ny386.out] at ho39 | (simp only [Int.reduceToNat] at ho39; rw [← Ny386.out] at ho39))
            have n0_ := zK (Kd.R_below yj hb)
            have n1_ := zK (Kd.R_below (yR HO391.out) hb)
            have n2_ := zK (Kd.R_lower ho39 (zN ya))
            have n3_ := zK (zL ya hb)
            clear HO_5
            clear HO391
            clear HB
            have HO_5 := n0_
            have HO391 := n1_
            have HO388 := n2_
            have HB := n3_
            clear n0_ n1_ n2_ n3_
            clear hb ho39
            refine hK.out _ _ trivial (fun hHeld => ?_)
            clear hK K
            refine norm_ (a' := ?_) ?_ ?_
            rotate_left
            ·show Act.put _ (some 48) _ = _
             simp only [Act.put, z1, z2, z3, i64_w, i32_w]
             rfl
            refine pure_ (i := 4) (N := some 9) (v := ?_) (a' := ?_) #[true, true, true, true, true, false] rfl rfl yi (fun _ _ _ h => h) (Or.inl ⟨by rfl, ?_⟩) ?_ ?_
            rotate_left
            ·intro w'
             go_simp
             with_reducible rfl
            rotate_left
            ·simp only [Act.put, z1, z2, z3, i64_w, i32_w]
             rfl
            exact norm_ (by simp only [putAll, Act.put, z1, z2, z3]) (hCont (v387, v390) _ ⟨(yR HO388.out), (yR HO391.out), yj, ya⟩)
          rintro ⟨v387, v390⟩ w40 ⟨h0_, h1_, h2_, h3_⟩
          have n0_ : Aside0 (Kd.R k47 47 w40 w.heap.size (fun _ => True) v387 y386) := ⟨h0_⟩
          have n1_ : Aside0 (Kd.R (Kd.int .i64) 3 w40 w.heap.size (fun _ => True) v390 y389) := ⟨h1_⟩
          have n2_ : Aside0 (Kd.R Kd.bool 4 w40 w.heap.size (fun _ => True) (.slice (some ⟨go7, 0, none⟩) x5_1.length co7) x5_1) := ⟨h2_⟩
          have n3_ : Aside0 (Below w.heap.size w w40) := ⟨h3_⟩
          clear HO_5
          clear HB
          clear h0_ h1_ h2_ h3_
          have HO388 := n0_
          have HO391 := n1_
          have HO_5 := n2_
          have HB := n3_
          clear n0_ n1_ n2_ n3_
          have hHeld := trivial
          refine norm_ (a' := ?_) ?_ ?_
          rotate_left
          ·simp only [putAll, Act.put, z1, z2, z3]
           rfl
          refine pure_ (i := 5) (N := some 10) (v := ?_) (a' := ?_) #[true, true, true, true, true, true] rfl rfl yi (fun _ _ _ h => h) (Or.inl ⟨by rfl, ?_⟩) ?_ ?_
          rotate_left
          ·intro w'
           go_simp
           with_reducible rfl
          rotate_left
          ·simp only [Act.put, z1, z2, z3, i64_w, i32_w]
           rfl
          refine done_ yi ?_
          try go_wp2
          go_loopg [9, 54] k1 (fun kq v9 v54 w' => ∃ (x9_2 : List (S47)) (x10_2 : List Int) (x54_2 : Int), v54 = .int .i64 x54_2 ∧ Aside0 (impl_kept.l2 kq x5_1 x9_2 x10_2 l0 (l0.length : Int) x54_2 = some r) ∧ Aside0 (kq ≤ k1) ∧ Aside0 (Kd.R Kd.bool 4 w' w.heap.size (fun _ => True) (.slice (some ⟨go7, 0, none⟩) x5_1.length co7) x5_1) ∧ Aside0 (Kd.R k47 47 w' w.heap.size (fun _ => True) v9 x9_2) ∧ Aside0 (Kd.R (Kd.int .i64) 3 w' w.heap.size (fun _ => True) v390 x10_2) ∧ Aside0 (Below w.heap.size w w'))
          case atStart => exact ⟨(y386), (y389), (0), ye, H', ⟨Nat.le_refl _⟩, ⟨yq1⟩, ⟨by (try simp only [hl5_1]); (with_reducible repeat (first | apply Kd.R_alloc | apply Kd.R_drewN | apply Kd.R_drew)); exact HO388.out⟩, ⟨by (try simp only [hl5_1]); (with_reducible repeat (first | apply Kd.R_alloc | apply Kd.R_drewN | apply Kd.R_drew)); exact HO391.out⟩, ⟨ya⟩⟩
          case round =>
           clear H'
           try clear c1
           try clear c2
           try clear p2
           try clear q2
           try clear hx2
           try clear hf2
           try clear c3
           try clear c3b0
           try clear c3b1
           try clear p3
           try clear q3
           try clear hx3
           try clear hf3
           try clear c4
           try clear c4b0
           try clear c4b1
           try clear c5
           try clear c5b0
           try clear c6
           try clear c6b0
           try clear p6
           try clear p7
           try clear q7
           try clear hx7
           try clear hf7
           try clear c10
           try clear c12
           try clear c12b0
           try clear c13
           try clear c13b0
           try clear c14
           try clear c14b0
           try clear c18
           try clear c18b0
           try clear c19
           try clear c19b0
           try clear c20
           try clear c20b0
           try clear c21
           try clear c21b0
           try clear c22
           try clear c22b0
           try clear q23
           try clear c24
           try clear p25
           try clear q25
           try clear hx25
           try clear hf25
           try clear c28
           try clear c28b0
           try clear c29
           try clear c29b0
           try clear p30
           try clear q30
           try clear hx30
           try clear hf30
           try clear c33
           try clear c33b0
           try clear c33b1
           try clear c34
           try clear c34b0
           try clear c34b1
           try clear p37
           try clear q37
           try clear hx37
           try clear p38
           try clear q38
           try clear hx38
           try clear hx25_0
           try clear hx30_0
           try clear hx377_0
           try clear hx377_1
           try clear hx377_2
           try clear hx377_3
           try clear hx381_0
           try clear hx382_0
           try clear hx384_0
           try clear hx7_0
           try clear p2
           try clear p25
           try clear p3
           try clear p30
           try clear p377
           try clear p381
           try clear p382
           try clear p384
           try clear p7
           try clear q25
           try clear q3
           try clear q30
           try clear q377
           try clear q381
           try clear q382
           try clear q384
           try clear q7
           obtain ⟨x9_2, x10_2, x54_2, rfl, HA, HK2, HO_5, HO_9, HO_10, HB⟩ := hrel
           cases gk with
           | zero => exact absurd HA.out (by simp [impl_kept.l2])
           | succ k2 =>
            have H := HA.out
            clear HA
            simp only [impl_kept.l2] at H
            by_cases c41 : x54_2 < (l0.length : Int)
            ·rw [if_pos c41] at H
             have c41b0 : decide (x54_2 < (l0.length : Int)) = true := decide_eq_true c41
             clear c41
             by_cases c42 : 0 ≤ x54_2
             ·rw [if_pos c42] at H
              have c42b0 : decide (0 ≤ x54_2) = true := decide_eq_true c42
              clear c42
              by_cases c43 : x54_2 < (l0.length : Int)
              ·rw [if_pos c43] at H
               have c43b0 : decide (x54_2 < (l0.length : Int)) = true := decide_eq_true c43
               clear c43
               by_cases c44 : x54_2 < (x5_1.length : Int)
               ·rw [if_pos c44] at H
                have c44b0 : decide (x54_2 < (x5_1.length : Int)) = true := decide_eq_true c44
                clear c44
                obtain ⟨bq45, hbq45⟩ : ∃ b_ : Bool, b_ = (rdOf false x5_1 x54_2) := ⟨_, rfl⟩
                replace H : (if bq45 = true then (if x54_2 < (x10_2.length : Int) then ((some (x10_2.set (x54_2 : Int).toNat (x9_2.length : Int) : List Int)).bind fun y395 => ((impl_Node_renamed.f k2 ((rd_T47 l0 x54_2).f0) ((rd_T47 l0 x54_2).f1) ((rd_T47 l0 x54_2).f2) ((rd_T47 l0 x54_2).f3) y395).bind fun bt396 => (if x9_2.length < 3518437208883 then (impl_kept.l2 k2 x5_1 (x9_2 ++ [(⟨bt396.1, bt396.2.1, bt396.2.2.1, bt396.2.2.2⟩ : S47)]) y395 l0 (l0.length : Int) (wrap64 (x54_2 + 1))) else (none)))) else (none)) else (impl_kept.l2 k2 x5_1 x9_2 x10_2 l0 (l0.length : Int) (wrap64 (x54_2 + 1)))) = some r := by rw [← hbq45] at H; exact H
                have Nbq45 := zK hbq45
                clear hbq45
                by_cases c46 : bq45 = true
                ·subst c46
                 rw [if_pos rfl] at H
                 by_cases c47 : x54_2 < (x10_2.length : Int)
                 ·rw [if_pos c47] at H
                  have c47b0 : decide (x54_2 < (x10_2.length : Int)) = true := decide_eq_true c47
                  clear c47
                  obtain ⟨y395, hy395⟩ : ∃ y_ : List Int, y_ = (x10_2.set (x54_2 : Int).toNat (x9_2.length : Int)) := ⟨_, rfl⟩
                  replace H : ((impl_Node_renamed.f k2 ((rd_T47 l0 x54_2).f0) ((rd_T47 l0 x54_2).f1) ((rd_T47 l0 x54_2).f2) ((rd_T47 l0 x54_2).f3) y395).bind fun bt396 => (if x9_2.length < 3518437208883 then (impl_kept.l2 k2 x5_1 (x9_2 ++ [(⟨bt396.1, bt396.2.1, bt396.2.2.1, bt396.2.2.2⟩ : S47)]) y395 l0 (l0.length : Int) (wrap64 (x54_2 + 1))) else (none))) = some r := by have hy_ := hy395; exact xH
                  have Ny395 := zK hy395
                  clear hy395
                  replace H := Option.bind_eq_some_iff.mp H
                  obtain ⟨⟨t396, t397, t398, t399⟩, A490, H⟩ := H
                  replace H : (if x9_2.length < 3518437208883 then (impl_kept.l2 k2 x5_1 (x9_2 ++ [(⟨t396, t397, t398, t399⟩ : S47)]) y395 l0 (l0.length : Int) (wrap64 (x54_2 + 1))) else (none)) = some r := H
                  have A49 := zK A490
                  clear A490
                  by_cases c50 : x9_2.length < 3518437208883
                  ·rw [if_pos c50] at H
                   have LMc50 := zK c50
                   clear c50
                   obtain ⟨y400, hy400⟩ : ∃ y_ : List (S47), y_ = (x9_2 ++ [(⟨t396, t397, t398, t399⟩ : S47)]) := ⟨_, rfl⟩
                   replace H : (impl_kept.l2 k2 x5_1 y400 y395 l0 (l0.length : Int) (wrap64 (x54_2 + 1))) = some r := by have hy_ := hy400; exact xH
                   have Ny400 := zK hy400
                   clear hy400
                   have H' := zK H
                   clear H
                   have p392 : 0 ≤ (x54_2 : Int) := zo
                   have q392 : x54_2 < (l0.length : Int) := zo
                   obtain ⟨ad392, e392, hx392_0, hx392_1, hx392_2, hx392_3⟩ := at_T47 HR0.out x54_2 p392 q392
                   cases e392
                   replace hx392_0 := zt HB.out hx392_0
                   replace hx392_1 := zt HB.out hx392_1
                   replace hx392_2 := zt HB.out hx392_2
                   replace hx392_3 := zt HB.out hx392_3
                   replace p392 := eq_true p392
                   replace q392 := eq_true q392
                   go_wp2_with (first | ((with_reducible refine gate_dst (N := 12) rfl ?_); refine box_event ?hg (N := 12) ?hd (cs := #[.string (⟨#[]⟩ : ByteArray), .int .i64 0, .int .i64 0, .int .i64 0]) (t := 47) ?hr ?_; (case hd | hg => rfl); (case hr => exact xxa); intro gb393 hg w51 hbox hb; have n0_ := zK (Kd.R_below yj hb); have n1_ := zK (Kd.R_below (Kd.R_elderB yh1 gb393 (Nat.le_of_eq hg.symm)) hb); have n2_ := zK (Kd.R_below yg1 hb); have n3_ := zK (zL ya hb); have n4_ := zK (hbox); have n5_ := zK ((by rw [hg]; exact (zN ya) : w.heap.size ≤ gb393)); have n6_ := n5_; clear HO_5; clear HO_9; clear HO_10; clear HB; have HO_5 := n0_; have HO_9 := n1_; have HO_10 := n2_; have HB := n3_; have BK393 := n4_; have GW393 := n5_; have GE393 := n6_; clear n0_ n1_ n2_ n3_ n4_ n5_ n6_; clear hb hbox hg; have hcz52_0 : w51.cell? ⟨gb393, 0, none⟩ = some (.string (⟨#[]⟩ : ByteArray)) := (zI BK393.out 0).trans rfl; have hcz52_1 : w51.cell? ⟨gb393, 1, none⟩ = some (.int .i64 0) := (zI BK393.out 1).trans rfl; have hcz52_2 : w51.cell? ⟨gb393, 2, none⟩ = some (.int .i64 0) := (zI BK393.out 2).trans rfl; have hcz52_3 : w51.cell? ⟨gb393, 3, none⟩ = some (.int .i64 0) := (zI BK393.out 3).trans rfl; have hfz52_0 := zH BK393.out 0; have hfz52_1 := zH BK393.out 1; have hfz52_2 := zH BK393.out 2; have hfz52_3 := zH BK393.out 3) | ((with_reducible refine gate_store (t := 47) (p := 12) rfl ?_); refine store_event (t := 47) (p := 12) (v := ?vo_w53) (w1 := ((((w51.setCell ⟨gb393, 0, none⟩ (.string ((rd_T47 l0 x54_2).f0))).setCell ⟨gb393, 1, none⟩ (.int .i64 ((rd_T47 l0 x54_2).f1))).setCell ⟨gb393, 2, none⟩ (.int .i64 ((rd_T47 l0 x54_2).f2))).setCell ⟨gb393, 3, none⟩ (.int .i64 ((rd_T47 l0 x54_2).f3)))) ?hg ?ho ?hn ?hr ?_; (case ho => rfl); (case hg => rfl); (case hn => rfl); (case hr => exact xxa); intro w53 hw; have n0_ : Aside0 (Kd.R Kd.bool 4 w53 w.heap.size (fun _ => True) (.slice (some ⟨go7, 0, none⟩) x5_1.length co7) x5_1) := ⟨(by rw [hw]; exact (by (with_reducible repeat (first | apply Kd.R_alloc | apply Kd.R_drewN | apply Kd.R_drew)); exact Kd.R_mono (Kd.R_far (p := ⟨gb393, 3, none⟩) (Kd.R_far (p := ⟨gb393, 2, none⟩) (Kd.R_far (p := ⟨gb393, 1, none⟩) (Kd.R_far (p := ⟨gb393, 0, none⟩) (Kd.R_types HO_5.out BK393.out yp1) (fun _ hk => hk.2) (.string ((rd_T47 l0 x54_2).f0))) (fun _ hk => hk.2) (.int .i64 ((rd_T47 l0 x54_2).f1))) (fun _ hk => hk.2) (.int .i64 ((rd_T47 l0 x54_2).f2))) (fun _ hk => hk.2) (.int .i64 ((rd_T47 l0 x54_2).f3))) (fun _ hk => trivial)))⟩; have n1_ : Aside0 (Kd.R k47 47 w53 w.heap.size (fun k_ => k_ ≠ gb393) u9 x9_2) := ⟨(by rw [hw]; exact (by (with_reducible repeat (first | apply Kd.R_alloc | apply Kd.R_drewN | apply Kd.R_drew)); exact Kd.R_mono (Kd.R_far (p := ⟨gb393, 3, none⟩) (Kd.R_far (p := ⟨gb393, 2, none⟩) (Kd.R_far (p := ⟨gb393, 1, none⟩) (Kd.R_far (p := ⟨gb393, 0, none⟩) (Kd.R_mono HO_9.out (fun k_ hk => (⟨hk, hk.2⟩ : _ ∧ k_ ≠ gb393))) (fun _ hk => hk.2) (.string ((rd_T47 l0 x54_2).f0))) (fun _ hk => hk.2) (.int .i64 ((rd_T47 l0 x54_2).f1))) (fun _ hk => hk.2) (.int .i64 ((rd_T47 l0 x54_2).f2))) (fun _ hk => hk.2) (.int .i64 ((rd_T47 l0 x54_2).f3))) (fun _ hk => hk.1.2)))⟩; have n2_ : Aside0 (Kd.R (Kd.int .i64) 3 w53 w.heap.size (fun _ => True) v390 x10_2) := ⟨(by rw [hw]; exact (by (with_reducible repeat (first | apply Kd.R_alloc | apply Kd.R_drewN | apply Kd.R_drew)); exact Kd.R_mono (Kd.R_far (p := ⟨gb393, 3, none⟩) (Kd.R_far (p := ⟨gb393, 2, none⟩) (Kd.R_far (p := ⟨gb393, 1, none⟩) (Kd.R_far (p := ⟨gb393, 0, none⟩) (Kd.R_types HO_10.out BK393.out yp1) (fun _ hk => hk.2) (.string ((rd_T47 l0 x54_2).f0))) (fun _ hk => hk.2) (.int .i64 ((rd_T47 l0 x54_2).f1))) (fun _ hk => hk.2) (.int .i64 ((rd_T47 l0 x54_2).f2))) (fun _ hk => hk.2) (.int .i64 ((rd_T47 l0 x54_2).f3))) (fun _ hk => trivial)))⟩; have n3_ : Aside0 (w53.heap[gb393]? = some (.cells #[.string ((rd_T47 l0 x54_2).f0), .int .i64 ((rd_T47 l0 x54_2).f1), .int .i64 ((rd_T47 l0 x54_2).f2), .int .i64 ((rd_T47 l0 x54_2).f3)] 47 (0, 0))) := ⟨(by rw [hw]; exact (by (with_reducible repeat (first | refine zE ?_ _ | refine zF ?_ | refine zG ?_ _)); refine blk_put (cs := #[.string ((rd_T47 l0 x54_2).f0), .int .i64 ((rd_T47 l0 x54_2).f1), .int .i64 ((rd_T47 l0 x54_2).f2), .int .i64 0]) ?_ 3 _ rfl; (with_reducible repeat (first | refine zE ?_ _ | refine zF ?_ | refine zG ?_ _)); refine blk_put (cs := #[.string ((rd_T47 l0 x54_2).f0), .int .i64 ((rd_T47 l0 x54_2).f1), .int .i64 0, .int .i64 0]) ?_ 2 _ rfl; (with_reducible repeat (first | refine zE ?_ _ | refine zF ?_ | refine zG ?_ _)); refine blk_put (cs := #[.string ((rd_T47 l0 x54_2).f0), .int .i64 0, .int .i64 0, .int .i64 0]) ?_ 1 _ rfl; (with_reducible repeat (first | refine zE ?_ _ | refine zF ?_ | refine zG ?_ _)); refine blk_put (cs := #[.string (⟨#[]⟩ : ByteArray), .int .i64 0, .int .i64 0, .int .i64 0]) ?_ 0 _ rfl; (with_reducible repeat (first | refine zE ?_ _ | refine zF ?_ | refine zG ?_ _)); exact BK393.out))⟩; have n4_ : Aside0 (Below w.heap.size w w53) := ⟨(by rw [hw]; exact yz1)⟩; clear hw; clear HO_5; clear HO_9; clear HO_10; clear BK393; clear HB; have HO_5 := n0_; have HO_9 := n1_; have HO_10 := n2_; have BK393 := n3_; have HB := n4_; clear n0_ n1_ n2_ n3_ n4_; have p394 : 0 ≤ (x54_2 : Int) := zo; have q394 : x54_2 < (x5_1.length : Int) := zo; obtain ⟨ad394, e394, hx394_0⟩ := Kd.at_bool (Kd.R_reads' HO_5.out).2.2 x54_2 p394 q394; (try rw [← Nbq45.out] at hx394_0); obtain rfl : (⟨go7, 0, none⟩ : Addr) = ad394 := (by injection e394); (first | simp only [add_plain] at hx394_0 | simp only [add_at] at hx394_0 | simp only [Addr.add, Nat.zero_add] at hx394_0 | skip); replace p394 := eq_true p394; replace q394 := eq_true q394; obtain ⟨Ao54, co54, eo54⟩ := Kd.R_slice HO_9.out; subst eo54; have p48 : 0 ≤ (x54_2 : Int) := zo; have q48 : (x54_2 : Int) < ((x10_2.length : Int) : Int) := zo; obtain ⟨go48, co48, eo48, gb48, gl48, cl48, HG48⟩ := Kd.R_form HO_10.out (by omega); (first | cases eo48 | (injection eo48 with ea_ en_ ec_; (first | subst ea_ | (injection ea_ with ea_; subst ea_)); subst ec_; clear en_)); have GB48 := zK gb48; have GG48 := zK HG48; clear gb48 gl48 HG48; obtain ⟨hx48_0, hf48_0⟩ := Kd.R_celln 0 HO_10.out (x54_2 : Int) p48 q48; replace p48 := eq_true p48; replace q48 := eq_true q48; obtain ⟨hy55_, hz55_⟩ := Kd.R_celln 0 HO_10.out (x54_2 : Int) (zo) (zo); have HP55 := Kd.R_putg HO_10.out (x54_2 : Int) (x9_2.length : Int)) | ((with_reducible refine gate_store (t := 3) (p := 67) rfl ?_); refine store_event (t := 3) (p := 67) (v := ?vo_w56) (w1 := (w53.setCell ⟨go48, (x54_2 : Int).toNat, none⟩ (.int .i64 (x9_2.length : Int)))) ?hg ?ho ?hn ?hr ?_; (case ho => rfl); (case hg => rfl); (case hn => rfl); (case hr => exact xxa); intro w56 hw; have hg : w53.grownBy w56 (some go48) := (by rw [hw]; exact HP55.2); have hp_ : Kd.R (Kd.int .i64) 3 w56 w.heap.size (fun _ => True) (.slice (some ⟨go48, 0, none⟩) x10_2.length co48) y395 := (by rw [hw, Ny395.out]; exact HP55.1); clear HP55; have n0_ := zK (Kd.R_over' (v := (.slice (some ⟨go48, 0, none⟩) x10_2.length co48)) yj (Kd.R_typed HO_10.out) yp1 hg); have n1_ := zK (Kd.R_over' (v := (.slice (some ⟨go48, 0, none⟩) x10_2.length co48)) yh1 (Kd.R_typed HO_10.out) yp1 hg); have n2_ := zK (hp_); have n3_ := zK (blk_grown (g := gb393) (o := .cells #[.string ((rd_T47 l0 x54_2).f0), .int .i64 ((rd_T47 l0 x54_2).f1), .int .i64 ((rd_T47 l0 x54_2).f2), .int .i64 ((rd_T47 l0 x54_2).f3)] 47 (0, 0)) (yS BK393.out) hg (Kd.R_ne HO_10.out BK393.out yp1)); have n4_ := zK ((by rw [hw]; exact zD (HB.out) GB48.out : Below w.heap.size w w56)); clear HO_5; clear HO_9; clear HO_10; clear BK393; clear HB; have HO_5 := n0_; have HO_9 := n1_; have HO_10 := n2_; have BK393 := n3_; have HB := n4_; clear n0_ n1_ n2_ n3_ n4_; clear hg hw hp_; have hcz57_0 : w56.cell? ⟨gb393, 0, none⟩ = some (.string ((rd_T47 l0 x54_2).f0)) := (zI BK393.out 0).trans rfl; have hcz57_1 : w56.cell? ⟨gb393, 1, none⟩ = some (.int .i64 ((rd_T47 l0 x54_2).f1)) := (zI BK393.out 1).trans rfl; have hcz57_2 : w56.cell? ⟨gb393, 2, none⟩ = some (.int .i64 ((rd_T47 l0 x54_2).f2)) := (zI BK393.out 2).trans rfl; have hcz57_3 : w56.cell? ⟨gb393, 3, none⟩ = some (.int .i64 ((rd_T47 l0 x54_2).f3)) := (zI BK393.out 3).trans rfl; have hfz57_0 := zH BK393.out 0; have hfz57_1 := zH BK393.out 1; have hfz57_2 := zH BK393.out 2; have hfz57_3 := zH BK393.out 3) | ((with_reducible refine gate_callee (f := 59) rfl ?_); refine goesL_ (some 71) rfl rfl Try.func59 yi rfl #[.agg #[.string ((rd_T47 l0 x54_2).f0), .int .i64 ((rd_T47 l0 x54_2).f1), .int .i64 ((rd_T47 l0 x54_2).f2), .int .i64 ((rd_T47 l0 x54_2).f3)], .slice (some ⟨go48, 0, none⟩) y395.length co48] rfl (by (try simp only [z6, z7, z8]); first | done | (rw [show y395.length = x10_2.length from (Kd.R_reads' HO_10.out).1.symm] <;> rfl) | rfl | (simp only [z4, z5]; rfl)) ?_; (with_reducible refine (impl_Node_renamed.calls k2 ((rd_T47 l0 x54_2).f0) ((rd_T47 l0 x54_2).f1) ((rd_T47 l0 x54_2).f2) ((rd_T47 l0 x54_2).f3) _ _ y395 t396 t397 t398 t399 _ ?side1 ?side2 A49.out).mono ?_); (case side1 => repeat (first | exact (Kd.R_reads' HO_10.out).2.2 | (with_reducible refine Kd.C_alloc ?_ _) | (with_reducible refine Kd.C_drewN ?_ _) | (with_reducible refine Kd.C_drew ?_))); (case side2 => rw [show y395.length = x10_2.length from (Kd.R_reads' HO_10.out).1.symm]; exact (Kd.R_reads' HO_10.out).2.1); rintro e w58 ⟨rfl, hb⟩; refine ⟨_, rfl, ?_⟩; have n0_ := zK (Kd.R_below yj hb); have n1_ := zK (Kd.R_below yh1 hb); have n2_ := zK (Kd.R_below yg1 hb); have n3_ := zK (zM (g := gb393) (o := .cells #[.string ((rd_T47 l0 x54_2).f0), .int .i64 ((rd_T47 l0 x54_2).f1), .int .i64 ((rd_T47 l0 x54_2).f2), .int .i64 ((rd_T47 l0 x54_2).f3)] 47 (0, 0)) (yS BK393.out) hb); have n4_ := zK (zL yz1 hb); clear HO_5; clear HO_9; clear HO_10; clear BK393; clear HB; have HO_5 := n0_; have HO_9 := n1_; have HO_10 := n2_; have BK393 := n3_; have HB := n4_; clear n0_ n1_ n2_ n3_ n4_; (try clear hb); (try clear hb2); (try clear hk); (try clear hi)) | ((with_reducible refine gate_builtin (b := .append) (xs := #[.tmp 68, .tmp 72]) rfl ?_); at_builtin; refine Kd.R_append k47 (w0 := w) w.heap.size rfl (.tmp 68) (.tmp 72) 24 47 (.agg #[(.string ⟨#[]⟩), (.int .i64 0), (.int .i64 0), (.int .i64 0)]) 40 rfl Try.underlying24 info47 rfl yp1 (by omega) (.slice Ao54 x9_2.length co54) x9_2 (⟨t396, t397, t398, t399⟩ : S47) [.string t396, .int .i64 t397, .int .i64 t398, .int .i64 t399] (fun k_ => k_ ≠ gb393) (fun _ => False) rfl rfl ?aP (fun _ hk => hk.elim) ?aF ?aO ?aB ?aS ?aL ?_; (case aP => exact k47_mkM _ _ _ (⟨t396, t397, t398, t399⟩ : S47)); (case aB => exact yz1); (case aF => exact (fun k_ hk => Kd.freshB (g := gb393) (o := .cells #[.string ((rd_T47 l0 x54_2).f0), .int .i64 ((rd_T47 l0 x54_2).f1), .int .i64 ((rd_T47 l0 x54_2).f2), .int .i64 ((rd_T47 l0 x54_2).f3)] 47 (0, 0)) (yS BK393.out) k_ hk)); (case aO => exact yh1); (case aS => exact (zN yz1)); (case aL => have := LMc50.out; omega); intro v401 w59 ho hb hg hat; rw [← Ny400.out] at ho; have n0_ := zK (Kd.R_over' yj (Kd.R_typed yh1) yp1 hg); have n1_ := zK (Kd.R_over' yg1 (Kd.R_typed yh1) yp1 hg); have n2_ := zK (blk_grown (g := gb393) (o := .cells #[.string ((rd_T47 l0 x54_2).f0), .int .i64 ((rd_T47 l0 x54_2).f1), .int .i64 ((rd_T47 l0 x54_2).f2), .int .i64 ((rd_T47 l0 x54_2).f3)] 47 (0, 0)) (yS BK393.out) hg (Kd.R_away HO_9.out (fun _ hk => hk))); have n3_ := zK (hb); have n4_ := zK (ho); clear HO_5; clear HO_10; clear BK393; clear HB; clear HO_9; have HO_5 := n0_; have HO_10 := n1_; have BK393 := n2_; have HB := n3_; have HO402 := n4_; clear n0_ n1_ n2_ n3_ n4_; clear ho hb hg hat))
                   go_roundg k2
                   case measure => have := HK1.out; have := HK2.out; omega
                   case rel => exact ⟨(y400), (y395), (wrap64 (x54_2 + 1)), ye, H', ⟨yx⟩, ⟨yq1⟩, ⟨by (try simp only [hl5_1]); (with_reducible repeat (first | apply Kd.R_alloc | apply Kd.R_drewN | apply Kd.R_drew)); exact Kd.R_mono HO402.out (fun _ hk => trivial)⟩, ⟨by (try simp only [hl5_1]); (with_reducible repeat (first | apply Kd.R_alloc | apply Kd.R_drewN | apply Kd.R_drew)); exact HO_10.out⟩, ⟨yz1⟩⟩
                  ·rw [if_neg c50] at H
                   exact absurd H ye1
                 ·rw [if_neg c47] at H
                  exact absurd H ye1
                ·replace c46 := Bool.eq_false_iff.mpr c46
                 subst c46
                 rw [if_neg (show ¬ (false = true) by decide)] at H
                 have H' := zK H
                 clear H
                 have p392 : 0 ≤ (x54_2 : Int) := zo
                 have q392 : x54_2 < (l0.length : Int) := zo
                 obtain ⟨ad392, e392, hx392_0, hx392_1, hx392_2, hx392_3⟩ := at_T47 HR0.out x54_2 p392 q392
                 cases e392
                 replace hx392_0 := zt HB.out hx392_0
                 replace hx392_1 := zt HB.out hx392_1
                 replace hx392_2 := zt HB.out hx392_2
                 replace hx392_3 := zt HB.out hx392_3
                 replace p392 := eq_true p392
                 replace q392 := eq_true q392
                 go_wp2_with (first | ((with_reducible refine gate_dst (N := 12) rfl ?_); refine box_event ?hg (N := 12) ?hd (cs := #[.string (⟨#[]⟩ : ByteArray), .int .i64 0, .int .i64 0, .int .i64 0]) (t := 47) ?hr ?_; (case hd | hg => rfl); (case hr => exact xxa); intro gb393 hg w60 hbox hb; have n0_ := zK (Kd.R_below yj hb); have n1_ := zK (Kd.R_below (Kd.R_elderB yh1 gb393 (Nat.le_of_eq hg.symm)) hb); have n2_ := zK (Kd.R_below yg1 hb); have n3_ := zK (zL ya hb); have n4_ := zK (hbox); have n5_ := zK ((by rw [hg]; exact (zN ya) : w.heap.size ≤ gb393)); have n6_ := n5_; clear HO_5; clear HO_9; clear HO_10; clear HB; have HO_5 := n0_; have HO_9 := n1_; have HO_10 := n2_; have HB := n3_; have BK393 := n4_; have GW393 := n5_; have GE393 := n6_; clear n0_ n1_ n2_ n3_ n4_ n5_ n6_; clear hb hbox hg; have hcz61_0 : w60.cell? ⟨gb393, 0, none⟩ = some (.string (⟨#[]⟩ : ByteArray)) := (zI BK393.out 0).trans rfl; have hcz61_1 : w60.cell? ⟨gb393, 1, none⟩ = some (.int .i64 0) := (zI BK393.out 1).trans rfl; have hcz61_2 : w60.cell? ⟨gb393, 2, none⟩ = some (.int .i64 0) := (zI BK393.out 2).trans rfl; have hcz61_3 : w60.cell? ⟨gb393, 3, none⟩ = some (.int .i64 0) := (zI BK393.out 3).trans rfl; have hfz61_0 := zH BK393.out 0; have hfz61_1 := zH BK393.out 1; have hfz61_2 := zH BK393.out 2; have hfz61_3 := zH BK393.out 3; have p394 : 0 ≤ (x54_2 : Int) := zo; have q394 : x54_2 < (x5_1.length : Int) := zo; obtain ⟨ad394, e394, hx394_0⟩ := Kd.at_bool (Kd.R_reads' HO_5.out).2.2 x54_2 p394 q394; (try rw [← Nbq45.out] at hx394_0); obtain rfl : (⟨go7, 0, none⟩ : Addr) = ad394 := (by injection e394); (first | simp only [add_plain] at hx394_0 | simp only [add_at] at hx394_0 | simp only [Addr.add, Nat.zero_add] at hx394_0 | skip); have hn394_0 : (⟨go7, 0, none⟩ : Addr).block ≠ gb393 := Kd.own_blk (by first | exact Kd.R_ne HO_5.out BK393.out yp1 | (intro e_; exact (HO_5.out.1 _ e_.symm).2 rfl)); have hn394_1 : (⟨go7, 0, none⟩ : Addr).block ≠ gb393 := Kd.own_blk (by first | exact Kd.R_ne HO_5.out BK393.out yp1 | (intro e_; exact (HO_5.out.1 _ e_.symm).2 rfl)); have hn394_2 : (⟨go7, 0, none⟩ : Addr).block ≠ gb393 := Kd.own_blk (by first | exact Kd.R_ne HO_5.out BK393.out yp1 | (intro e_; exact (HO_5.out.1 _ e_.symm).2 rfl)); have hn394_3 : (⟨go7, 0, none⟩ : Addr).block ≠ gb393 := Kd.own_blk (by first | exact Kd.R_ne HO_5.out BK393.out yp1 | (intro e_; exact (HO_5.out.1 _ e_.symm).2 rfl)); replace hx394_0 := (cell_far (p := ⟨gb393, 0, none⟩) (by first | (rw [add_block]; exact hn394_0) | (show (Addr.add _ _).block ≠ _; rw [add_block]; exact hn394_0) | exact hn394_0) (.string ((rd_T47 l0 x54_2).f0))).trans hx394_0; replace hx394_0 := (cell_far (p := ⟨gb393, 1, none⟩) (by first | (rw [add_block]; exact hn394_1) | (show (Addr.add _ _).block ≠ _; rw [add_block]; exact hn394_1) | exact hn394_1) (.int .i64 ((rd_T47 l0 x54_2).f1))).trans hx394_0; replace hx394_0 := (cell_far (p := ⟨gb393, 2, none⟩) (by first | (rw [add_block]; exact hn394_2) | (show (Addr.add _ _).block ≠ _; rw [add_block]; exact hn394_2) | exact hn394_2) (.int .i64 ((rd_T47 l0 x54_2).f2))).trans hx394_0; replace hx394_0 := (cell_far (p := ⟨gb393, 3, none⟩) (by first | (rw [add_block]; exact hn394_3) | (show (Addr.add _ _).block ≠ _; rw [add_block]; exact hn394_3) | exact hn394_3) (.int .i64 ((rd_T47 l0 x54_2).f3))).trans hx394_0; clear hn394_0; clear hn394_1; clear hn394_2; clear hn394_3; replace p394 := eq_true p394; replace q394 := eq_true q394))
                 go_roundg k2
                 case measure => have := HK1.out; have := HK2.out; omega
                 case rel => exact ⟨(x9_2), (x10_2), (wrap64 (x54_2 + 1)), ye, H', ⟨yx⟩, ⟨by (try simp only [hl5_1]); (with_reducible repeat (first | apply Kd.R_alloc | apply Kd.R_drewN | apply Kd.R_drew)); exact Kd.R_mono (Kd.R_far (p := ⟨gb393, 3, none⟩) (Kd.R_far (p := ⟨gb393, 2, none⟩) (Kd.R_far (p := ⟨gb393, 1, none⟩) (Kd.R_far (p := ⟨gb393, 0, none⟩) (Kd.R_types HO_5.out BK393.out yp1) (fun _ hk => hk.2) (.string ((rd_T47 l0 x54_2).f0))) (fun _ hk => hk.2) (.int .i64 ((rd_T47 l0 x54_2).f1))) (fun _ hk => hk.2) (.int .i64 ((rd_T47 l0 x54_2).f2))) (fun _ hk => hk.2) (.int .i64 ((rd_T47 l0 x54_2).f3))) (fun _ hk => trivial)⟩, ⟨by (try simp only [hl5_1]); (with_reducible repeat (first | apply Kd.R_alloc | apply Kd.R_drewN | apply Kd.R_drew)); exact Kd.R_mono (Kd.R_far (p := ⟨gb393, 3, none⟩) (Kd.R_far (p := ⟨gb393, 2, none⟩) (Kd.R_far (p := ⟨gb393, 1, none⟩) (Kd.R_far (p := ⟨gb393, 0, none⟩) (Kd.R_mono HO_9.out (fun k_ hk => (⟨hk, hk.2⟩ : _ ∧ k_ ≠ gb393))) (fun _ hk => hk.2) (.string ((rd_T47 l0 x54_2).f0))) (fun _ hk => hk.2) (.int .i64 ((rd_T47 l0 x54_2).f1))) (fun _ hk => hk.2) (.int .i64 ((rd_T47 l0 x54_2).f2))) (fun _ hk => hk.2) (.int .i64 ((rd_T47 l0 x54_2).f3))) (fun _ hk => trivial)⟩, ⟨by (try simp only [hl5_1]); (with_reducible repeat (first | apply Kd.R_alloc | apply Kd.R_drewN | apply Kd.R_drew)); exact Kd.R_mono (Kd.R_far (p := ⟨gb393, 3, none⟩) (Kd.R_far (p := ⟨gb393, 2, none⟩) (Kd.R_far (p := ⟨gb393, 1, none⟩) (Kd.R_far (p := ⟨gb393, 0, none⟩) (Kd.R_types HO_10.out BK393.out yp1) (fun _ hk => hk.2) (.string ((rd_T47 l0 x54_2).f0))) (fun _ hk => hk.2) (.int .i64 ((rd_T47 l0 x54_2).f1))) (fun _ hk => hk.2) (.int .i64 ((rd_T47 l0 x54_2).f2))) (fun _ hk => hk.2) (.int .i64 ((rd_T47 l0 x54_2).f3))) (fun _ hk => trivial)⟩, ⟨yz1⟩⟩
               ·rw [if_neg c44] at H
                exact absurd H ye1
              ·rw [if_neg c43] at H
               exact absurd H ye1
             ·rw [if_neg c42] at H
              exact absurd H ye1
            ·rw [if_neg c41] at H
             have c41b0 : decide (x54_2 < (l0.length : Int)) = false := decide_eq_false c41
             clear c41
             obtain rfl := Option.some.inj H
             go_wp2
             go_ret
             exact ⟨_, yd, yh1, ya⟩
         ·rw [if_neg c34] at H
          exact absurd H ye1
        ·rw [if_neg c33] at H
         exact absurd H ye1
    ·rw [if_neg c6] at H
     exact absurd H ye1
   ·rw [if_neg c5] at H
    exact absurd H ye1
  ·rw [if_neg c4] at H
   exact absurd H ye1
 ·rw [if_neg c3] at H
  exact absurd H ye1

end Go.Proofs.Ytlcplhcccgbmnaa.D
