/- Contracts: impl_Instr_reads, slices_DeleteFunc_int_int_impl_Instr_before_c1, impl_Instr_before. -/
import Derived.Test.YtecmlikhmkcdpaaGK
import Derived.Test.YtecmlikhmkcdpaaGImplFormOf
import Derived.Test.YtecmlikhmkcdpaaGImplIsCodeC1
import Derived.Lib.RowBridge
import Derived.Test.YtecmlikhmkcdpaaDel
namespace Go.Proofs.Ytecmlikhmkcdpaa.G
open Go.RowKit Go.Proofs.YtecmlikhmkcdpaaW.PrintWords Go.Proofs.YtecmlikhmkcdpaaW.PrintLast Go.Proofs.YtecmlikhmkcdpaaW.PrintMore
attribute [local go_sem] max2_int min2_int max_two min_two max_three min_three max_four min_four   -- for this text's walks alone
set_option linter.unusedVariables false
set_option linter.unusedSimpArgs false

/-! ### impl_Instr_reads: function 155 -/
def impl_Instr_reads.j0 : Nat → List Int → ByteArray → Int → Int → Int → Int → Bool → Bool → Int → Int → Int → ByteArray → Option (List Int)
 | 0, _, _, _, _, _, _, _, _, _, _, _, _ => none
 | k + 1, x5, x438000, x438001, x438002, x438003, x438004, x446000, x446001, x446002, x446003, x446004, x446005 => if x446001 = true then (if x5.length < 17592186044416 then ((slices_Sort_int_int.f k (x5 ++ [x438003])).bind fun t455 => ((slices_Compact_int_int.f k t455).bind fun t456 => (some t456))) else (none)) else ((slices_Sort_int_int.f k x5).bind fun t459 => ((slices_Compact_int_int.f k t459).bind fun t460 => (some t460)))
def impl_Instr_reads.f (k : Nat) (a0_0 : ByteArray) (a0_1 : Int) (a0_2 : Int) (a0_3 : Int) (a0_4 : Int) : Option (List Int) := (impl_formOf.f k a0_0).bind fun bt438 => ((some (([] : List Int) : List Int)).bind fun y446 => (if bt438.1 = true then (if y446.length < 17592186044416 then (impl_Instr_reads.j0 k (y446 ++ [a0_2]) a0_0 a0_1 a0_2 a0_3 a0_4 bt438.1 bt438.2.1 bt438.2.2.1 bt438.2.2.2.1 bt438.2.2.2.2.1 bt438.2.2.2.2.2.1) else (none)) else (impl_Instr_reads.j0 k y446 a0_0 a0_1 a0_2 a0_3 a0_4 bt438.1 bt438.2.1 bt438.2.2.1 bt438.2.2.2.1 bt438.2.2.2.2.1 bt438.2.2.2.2.2.1)))
theorem impl_Instr_reads.mono_l : ∀ k, (∀ y0 y1 y2 y3 y4 y5 y6 y7 y8 y9 y10 y11, LeO (impl_Instr_reads.j0 k y0 y1 y2 y3 y4 y5 y6 y7 y8 y9 y10 y11) (impl_Instr_reads.j0 (k + 1) y0 y1 y2 y3 y4 y5 y6 y7 y8 y9 y10 y11))
 | 0 => fun _ _ _ _ _ _ _ _ _ _ _ _ r h => by simp [impl_Instr_reads.j0] at h
 | k + 1 => by
  have ih0 := impl_Instr_reads.mono_l k
  ·intro y0 y1 y2 y3 y4 y5 y6 y7 y8 y9 y10 y11
   unfold impl_Instr_reads.j0
   repeat' first
   | (with_reducible exact ih0 _ _ _ _ _ _ _ _ _ _ _ _)
   | (with_reducible exact impl_formOf.mono _ _)
   | (with_reducible exact slices_Compact_int_int.mono _ _)
   | (with_reducible exact slices_Sort_int_int.mono _ _)
   | (with_reducible exact LeO.refl _)
   | (with_reducible exact LeO.none _)
   | (with_reducible refine LeO.ite ?_ ?_)
   | (with_reducible refine LeO.bind ?_ (fun _ => ?_))
   | exact ih0 _ _ _ _ _ _ _ _ _ _ _ _
   | exact impl_formOf.mono _ _
   | exact slices_Compact_int_int.mono _ _
   | exact slices_Sort_int_int.mono _ _
   | exact LeO.none _
   | refine LeO.ite ?_ ?_
   | refine LeO.bind ?_ (fun _ => ?_)
theorem impl_Instr_reads.mono : ∀ a0 a1 a2 a3 a4 k, LeO (impl_Instr_reads.f k a0 a1 a2 a3 a4) (impl_Instr_reads.f (k + 1) a0 a1 a2 a3 a4) := by
 intro a0 a1 a2 a3 a4 k
 have ih0 := impl_Instr_reads.mono_l k
 unfold impl_Instr_reads.f
 repeat' first
   | (with_reducible exact ih0 _ _ _ _ _ _ _ _ _ _ _ _)
   | (with_reducible exact impl_formOf.mono _ _)
   | (with_reducible exact slices_Compact_int_int.mono _ _)
   | (with_reducible exact slices_Sort_int_int.mono _ _)
   | (with_reducible exact LeO.refl _)
   | (with_reducible exact LeO.none _)
   | (with_reducible refine LeO.ite ?_ ?_)
   | (with_reducible refine LeO.bind ?_ (fun _ => ?_))
   | exact ih0 _ _ _ _ _ _ _ _ _ _ _ _
   | exact impl_formOf.mono _ _
   | exact slices_Compact_int_int.mono _ _
   | exact slices_Sort_int_int.mono _ _
   | exact LeO.none _
   | refine LeO.ite ?_ ?_
   | refine LeO.bind ?_ (fun _ => ?_)
set_option maxHeartbeats 16000000 in
set_option maxRecDepth 100000 in
theorem impl_Instr_reads.calls (k : Nat) (a0_0 : ByteArray) (a0_1 : Int) (a0_2 : Int) (a0_3 : Int) (a0_4 : Int) (r : List Int) (w : World) (h : impl_Instr_reads.f k a0_0 a0_1 a0_2 a0_3 a0_4 = some r) :
  Calls Try.prog 155 #[.agg #[.string a0_0, .int .i64 a0_1, .int .i64 a0_2, .int .i64 a0_3, .int .i64 a0_4]] w fun e w' => ∃ v0_ : Value, e = .returned (v0_) ∧ Kd.R (Kd.int .i64) 3 w' w.heap.size (fun _ => True) v0_ r ∧ Below w.heap.size w w' := by
 have hu67 := Try.underlying67
 have hu96 := Try.underlying96
 have HB := zK (Below.refl w.heap.size w)
 have H : ((impl_formOf.f k a0_0).bind fun bt438 => ((some (([] : List Int) : List Int)).bind fun y446 => (if bt438.1 = true then (if y446.length < 17592186044416 then (impl_Instr_reads.j0 k (y446 ++ [a0_2]) a0_0 a0_1 a0_2 a0_3 a0_4 bt438.1 bt438.2.1 bt438.2.2.1 bt438.2.2.2.1 bt438.2.2.2.2.1 bt438.2.2.2.2.2.1) else (none)) else (impl_Instr_reads.j0 k y446 a0_0 a0_1 a0_2 a0_3 a0_4 bt438.1 bt438.2.1 bt438.2.2.1 bt438.2.2.2.1 bt438.2.2.2.2.1 bt438.2.2.2.2.2.1)))) = some r := h
 clear h
 replace H := Option.bind_eq_some_iff.mp H
 obtain ⟨⟨t438, t439, t440, t441, t442, t443, t444⟩, A20, H⟩ := H
 replace H : ((some (([] : List Int) : List Int)).bind fun y446 => (if t438 = true then (if y446.length < 17592186044416 then (impl_Instr_reads.j0 k (y446 ++ [a0_2]) a0_0 a0_1 a0_2 a0_3 a0_4 t438 t439 t440 t441 t442 t443) else (none)) else (impl_Instr_reads.j0 k y446 a0_0 a0_1 a0_2 a0_3 a0_4 t438 t439 t440 t441 t442 t443))) = some r := H
 have A2 := zK A20
 clear A20
 obtain ⟨y446, hy446⟩ : ∃ y_ : List Int, y_ = (([] : List Int)) := ⟨_, rfl⟩
 replace H : (if t438 = true then (if y446.length < 17592186044416 then (impl_Instr_reads.j0 k (y446 ++ [a0_2]) a0_0 a0_1 a0_2 a0_3 a0_4 t438 t439 t440 t441 t442 t443) else (none)) else (impl_Instr_reads.j0 k y446 a0_0 a0_1 a0_2 a0_3 a0_4 t438 t439 t440 t441 t442 t443)) = some r := by first | (rw [hy446]; with_reducible exact H) | (have H2_ := (Option.bind_some _ _).symm.trans H; rw [hy446]; with_reducible exact H2_) | (have H2_ := (Option.bind_some _ _).symm.trans H; with_reducible exact H2_) | with_reducible exact H | (rw [hy446]; exact H) | exact H
 have Ny446 := zK hy446
 clear hy446
 have HC3 := zK H
 clear H
 go_enter Try.func155, Try.ntmps155
 go_upto_if 14 with (first | ((with_reducible refine gate_dst (N := 1) rfl ?_); refine box_event ?hg (N := 1) ?hd (cs := #[.string a0_0, .int .i64 a0_1, .int .i64 a0_2, .int .i64 a0_3, .int .i64 a0_4]) (t := 67) ?hr ?_; (case hd => rfl); (case hg => rfl); (case hr => first | (go_simp; done) | (go_simp; rfl)); intro gb437 hg w4 hbox hb; have n0_ := zK (zL (by repeat (first | (with_reducible first | exact HB.out | apply zA | apply zB | apply zC) | exact HB.out)) hb); have n1_ := zK (hbox); have n2_ := zK ((by rw [hg]; exact (zN (by repeat (first | (with_reducible first | exact HB.out | apply zA | apply zB | apply zC) | exact HB.out))) : w.heap.size ≤ gb437)); have n3_ := n2_; clear HB; have HB := n0_; have BK437 := n1_; have GW437 := n2_; have GE437 := n3_; clear n0_ n1_ n2_ n3_; clear hb hbox hg; have hcz5_0 : w4.cell? ⟨gb437, 0, none⟩ = some (.string a0_0) := (zI BK437.out 0).trans rfl; have hcz5_1 : w4.cell? ⟨gb437, 1, none⟩ = some (.int .i64 a0_1) := (zI BK437.out 1).trans rfl; have hcz5_2 : w4.cell? ⟨gb437, 2, none⟩ = some (.int .i64 a0_2) := (zI BK437.out 2).trans rfl; have hcz5_3 : w4.cell? ⟨gb437, 3, none⟩ = some (.int .i64 a0_3) := (zI BK437.out 3).trans rfl; have hcz5_4 : w4.cell? ⟨gb437, 4, none⟩ = some (.int .i64 a0_4) := (zI BK437.out 4).trans rfl; have hfz5_0 := zH BK437.out 0; have hfz5_1 := zH BK437.out 1; have hfz5_2 := zH BK437.out 2; have hfz5_3 := zH BK437.out 3; have hfz5_4 := zH BK437.out 4) | ((with_reducible refine gate_callee (f := 96) rfl ?_); refine goesL_ (some 9) rfl rfl Try.func96 (by kernel_rfl) rfl #[.string a0_0] rfl (by (try simp only [z6, z7, z8]); first | done | rfl | (simp only [z4, z5]; rfl)) ?_; (with_reducible refine (impl_formOf.calls k a0_0 t438 t439 t440 t441 t442 t443 t444 _ A2.out).mono ?_); rintro e w6 ⟨rfl, hb⟩; refine ⟨_, rfl, ?_⟩; have n0_ := zK (zM (g := gb437) (o := .cells #[.string a0_0, .int .i64 a0_1, .int .i64 a0_2, .int .i64 a0_3, .int .i64 a0_4] 67 (0, 0)) (by (with_reducible repeat (first | refine zE ?_ _ | refine zF ?_ | refine zG ?_ _)); exact BK437.out) hb); have n1_ := zK (zL (by repeat (first | (with_reducible first | exact HB.out | apply zA | apply zB | apply zC | refine zD ?_ GE437.out) | exact HB.out)) hb); clear BK437; clear HB; have BK437 := n0_; have HB := n1_; clear n0_ n1_; (try clear hb); (try clear hb2); (try clear hk); (try clear hi)) | ((with_reducible refine gate_dst (N := 3) rfl ?_); refine box_event ?hg (N := 3) ?hd (cs := #[.bool false, .bool false, .int .i64 0, .int .i64 0, .int .i64 0, .string (⟨#[]⟩ : ByteArray)]) (t := 96) ?hr ?_; (case hd => rfl); (case hg => rfl); (case hr => first | (go_simp; done) | (go_simp; rfl)); intro gb445 hg w7 hbox hb; have n0_ := zK (zM (g := gb437) (o := .cells #[.string a0_0, .int .i64 a0_1, .int .i64 a0_2, .int .i64 a0_3, .int .i64 a0_4] 67 (0, 0)) (by (with_reducible repeat (first | refine zE ?_ _ | refine zF ?_ | refine zG ?_ _)); exact BK437.out) hb); have n1_ := zK (zL (by repeat (first | (with_reducible first | exact HB.out | apply zA | apply zB | apply zC | refine zD ?_ GE437.out) | exact HB.out)) hb); have n2_ := zK (hbox); have n3_ := zK ((by rw [hg]; exact (zN (by repeat (first | (with_reducible first | exact HB.out | apply zA | apply zB | apply zC | refine zD ?_ GE437.out) | exact HB.out))) : w.heap.size ≤ gb445)); have n4_ := n3_; have n5_ := zK ((by rw [hg]; exact Nat.ne_of_lt (blk_lt (g := gb437) (o := .cells #[.string a0_0, .int .i64 a0_1, .int .i64 a0_2, .int .i64 a0_3, .int .i64 a0_4] 67 (0, 0)) (by (with_reducible repeat (first | refine zE ?_ _ | refine zF ?_ | refine zG ?_ _)); exact BK437.out)) : gb437 ≠ gb445)); have n6_ := zK n5_.out.symm; clear BK437; clear HB; have BK437 := n0_; have HB := n1_; have BK445 := n2_; have GW445 := n3_; have GE445 := n4_; have NB437_445 := n5_; have NB445_437 := n6_; clear n0_ n1_ n2_ n3_ n4_ n5_ n6_; clear hb hbox hg; have hnb8 := NB445_437.out; have hnc8 := NB437_445.out; have hcz9_0 : w7.cell? ⟨gb445, 0, none⟩ = some (.bool false) := (zI BK445.out 0).trans rfl; have hcz9_1 : w7.cell? ⟨gb445, 1, none⟩ = some (.bool false) := (zI BK445.out 1).trans rfl; have hcz9_2 : w7.cell? ⟨gb445, 2, none⟩ = some (.int .i64 0) := (zI BK445.out 2).trans rfl; have hcz9_3 : w7.cell? ⟨gb445, 3, none⟩ = some (.int .i64 0) := (zI BK445.out 3).trans rfl; have hcz9_4 : w7.cell? ⟨gb445, 4, none⟩ = some (.int .i64 0) := (zI BK445.out 4).trans rfl; have hcz9_5 : w7.cell? ⟨gb445, 5, none⟩ = some (.string (⟨#[]⟩ : ByteArray)) := (zI BK445.out 5).trans rfl; have hfz9_0 := zH BK445.out 0; have hfz9_1 := zH BK445.out 1; have hfz9_2 := zH BK445.out 2; have hfz9_3 := zH BK445.out 3; have hfz9_4 := zH BK445.out 4; have hfz9_5 := zH BK445.out 5) | ((with_reducible refine gate_dst (N := 12) rfl ?_); refine Kd.R_lit (Kd.int .i64) _ 3 ?hg (N := 12) ?hd (xs := ([] : List Int)) (inner := []) (ok := fun _ => True) (okp := fun _ => True) ?hr ?hp (fun _ hk => hk) trivial (Below.refl _ _) (Nat.le_refl _) (by simp) ?_; (case hd => rfl); (case hg => rfl); (case hr => first | (go_simp; done) | (go_simp; rfl)); (case hp => exact (Reps.none _ _)); intro v447 w10 ho11 hb hg_ hnew_; clear hg_ hnew_; (first | rw [← Ny446.out] at ho11 | (simp only [Int.reduceToNat] at ho11; rw [← Ny446.out] at ho11)); have n0_ := zK (Kd.R_lower ho11 (zN (by repeat (first | (with_reducible first | exact HB.out | apply zA | apply zB | apply zC | refine zD ?_ GE437.out | refine zD ?_ GE445.out) | exact HB.out)))); have n1_ := zK (zM (g := gb437) (o := .cells #[.string a0_0, .int .i64 a0_1, .int .i64 a0_2, .int .i64 a0_3, .int .i64 a0_4] 67 (0, 0)) (by (with_reducible repeat (first | refine zE ?_ _ | refine zF ?_ | refine zG ?_ _)); refine blk_far ?_ NB437_445.out _; (with_reducible repeat (first | refine zE ?_ _ | refine zF ?_ | refine zG ?_ _)); refine blk_far ?_ NB437_445.out _; (with_reducible repeat (first | refine zE ?_ _ | refine zF ?_ | refine zG ?_ _)); refine blk_far ?_ NB437_445.out _; (with_reducible repeat (first | refine zE ?_ _ | refine zF ?_ | refine zG ?_ _)); refine blk_far ?_ NB437_445.out _; (with_reducible repeat (first | refine zE ?_ _ | refine zF ?_ | refine zG ?_ _)); refine blk_far ?_ NB437_445.out _; (with_reducible repeat (first | refine zE ?_ _ | refine zF ?_ | refine zG ?_ _)); refine blk_far ?_ NB437_445.out _; (with_reducible repeat (first | refine zE ?_ _ | refine zF ?_ | refine zG ?_ _)); exact BK437.out) hb); have n2_ := zK (zM (g := gb445) (o := .cells #[.bool t438, .bool t439, .int .i64 t440, .int .i64 t441, .int .i64 t442, .string t443] 96 (0, 0)) (by (with_reducible repeat (first | refine zE ?_ _ | refine zF ?_ | refine zG ?_ _)); refine blk_put (cs := #[.bool t438, .bool t439, .int .i64 t440, .int .i64 t441, .int .i64 t442, .string (⟨#[]⟩ : ByteArray)]) ?_ 5 _ rfl; (with_reducible repeat (first | refine zE ?_ _ | refine zF ?_ | refine zG ?_ _)); refine blk_put (cs := #[.bool t438, .bool t439, .int .i64 t440, .int .i64 t441, .int .i64 0, .string (⟨#[]⟩ : ByteArray)]) ?_ 4 _ rfl; (with_reducible repeat (first | refine zE ?_ _ | refine zF ?_ | refine zG ?_ _)); refine blk_put (cs := #[.bool t438, .bool t439, .int .i64 t440, .int .i64 0, .int .i64 0, .string (⟨#[]⟩ : ByteArray)]) ?_ 3 _ rfl; (with_reducible repeat (first | refine zE ?_ _ | refine zF ?_ | refine zG ?_ _)); refine blk_put (cs := #[.bool t438, .bool t439, .int .i64 0, .int .i64 0, .int .i64 0, .string (⟨#[]⟩ : ByteArray)]) ?_ 2 _ rfl; (with_reducible repeat (first | refine zE ?_ _ | refine zF ?_ | refine zG ?_ _)); refine blk_put (cs := #[.bool t438, .bool false, .int .i64 0, .int .i64 0, .int .i64 0, .string (⟨#[]⟩ : ByteArray)]) ?_ 1 _ rfl; (with_reducible repeat (first | refine zE ?_ _ | refine zF ?_ | refine zG ?_ _)); refine blk_put (cs := #[.bool false, .bool false, .int .i64 0, .int .i64 0, .int .i64 0, .string (⟨#[]⟩ : ByteArray)]) ?_ 0 _ rfl; (with_reducible repeat (first | refine zE ?_ _ | refine zF ?_ | refine zG ?_ _)); exact BK445.out) hb); have n3_ := zK (zL (by repeat (first | (with_reducible first | exact HB.out | apply zA | apply zB | apply zC | refine zD ?_ GE437.out | refine zD ?_ GE445.out) | exact HB.out)) hb); clear BK437; clear BK445; clear HB; have HO448 := n0_; have BK437 := n1_; have BK445 := n2_; have HB := n3_; clear n0_ n1_ n2_ n3_; clear hb ho11; have hcz12_0 : w10.cell? ⟨gb445, 0, none⟩ = some (.bool t438) := (zI BK445.out 0).trans rfl; have hcz12_1 : w10.cell? ⟨gb445, 1, none⟩ = some (.bool t439) := (zI BK445.out 1).trans rfl; have hcz12_2 : w10.cell? ⟨gb445, 2, none⟩ = some (.int .i64 t440) := (zI BK445.out 2).trans rfl; have hcz12_3 : w10.cell? ⟨gb445, 3, none⟩ = some (.int .i64 t441) := (zI BK445.out 3).trans rfl; have hcz12_4 : w10.cell? ⟨gb445, 4, none⟩ = some (.int .i64 t442) := (zI BK445.out 4).trans rfl; have hcz12_5 : w10.cell? ⟨gb445, 5, none⟩ = some (.string t443) := (zI BK445.out 5).trans rfl; have hfz12_0 := zH BK445.out 0; have hfz12_1 := zH BK445.out 1; have hfz12_2 := zH BK445.out 2; have hfz12_3 := zH BK445.out 3; have hfz12_4 := zH BK445.out 4; have hfz12_5 := zH BK445.out 5))
 (try simp only [Act.put, z1, z2, z3])
 go_cut [5] (fun v5 wc => ∃ (kq : Nat) (x5_2 : List Int), Aside0 (impl_Instr_reads.j0 kq x5_2 a0_0 a0_1 a0_2 a0_3 a0_4 t438 t439 t440 t441 t442 t443 = some r) ∧ Aside0 (kq ≤ k) ∧ Aside0 (Kd.R (Kd.int .i64) 3 wc w.heap.size (fun _ => True) v5 x5_2) ∧ Aside0 (wc.heap[gb437]? = some (.cells #[.string a0_0, .int .i64 a0_1, .int .i64 a0_2, .int .i64 a0_3, .int .i64 a0_4] 67 (0, 0))) ∧ Aside0 (wc.heap[gb445]? = some (.cells #[.bool t438, .bool t439, .int .i64 t440, .int .i64 t441, .int .i64 t442, .string t443] 96 (0, 0))) ∧ Aside0 (Below w.heap.size w wc))
 case first =>
  have H := HC3.out
  clear HC3
  by_cases c13 : t438 = true
  ·subst c13
   rw [if_pos rfl] at H
   by_cases c14 : y446.length < 17592186044416
   ·rw [if_pos c14] at H
    have LMc14 := zK c14
    clear c14
    obtain ⟨y449, hy449⟩ : ∃ y_ : List Int, y_ = (y446 ++ [a0_2]) := ⟨_, rfl⟩
    replace H : (impl_Instr_reads.j0 k y449 a0_0 a0_1 a0_2 a0_3 a0_4 true t439 t440 t441 t442 t443) = some r := by first | (rw [hy449]; with_reducible exact H) | (have H2_ := (Option.bind_some _ _).symm.trans H; rw [hy449]; with_reducible exact H2_) | (have H2_ := (Option.bind_some _ _).symm.trans H; with_reducible exact H2_) | with_reducible exact H | (rw [hy449]; exact H) | exact H
    have Ny449 := zK hy449
    clear hy449
    have H' := zK H
    clear H
    have hnb15 := NB437_445.out
    have hnc15 := NB445_437.out
    have hcz16_0 : w10.cell? ⟨gb437, 0, none⟩ = some (.string a0_0) := (zI BK437.out 0).trans rfl
    have hcz16_1 : w10.cell? ⟨gb437, 1, none⟩ = some (.int .i64 a0_1) := (zI BK437.out 1).trans rfl
    have hcz16_2 : w10.cell? ⟨gb437, 2, none⟩ = some (.int .i64 a0_2) := (zI BK437.out 2).trans rfl
    have hcz16_3 : w10.cell? ⟨gb437, 3, none⟩ = some (.int .i64 a0_3) := (zI BK437.out 3).trans rfl
    have hcz16_4 : w10.cell? ⟨gb437, 4, none⟩ = some (.int .i64 a0_4) := (zI BK437.out 4).trans rfl
    have hfz16_0 := zH BK437.out 0
    have hfz16_1 := zH BK437.out 1
    have hfz16_2 := zH BK437.out 2
    have hfz16_3 := zH BK437.out 3
    have hfz16_4 := zH BK437.out 4
    go_wp2_with (first | ((with_reducible refine gate_builtin (b := .append) (xs := #[.tmp 15, .tmp 18]) rfl ?_); at_builtin; refine Kd.R_append (Kd.int .i64) (w0 := w) w.heap.size rfl (.tmp 15) (.tmp 18) 40 3 (.int .i64 0) 8 rfl Try.underlying40 info3 rfl (by decide) (by omega) v447 y446 a0_2 [.int .i64 a0_2] (fun _ => True) (fun _ => False) rfl rfl ?aP (fun _ hk => hk.elim) ?aF ?aO ?aB ?aS ?aL ?_; (case aP => exact rfl); (case aB => exact (by repeat (first | (with_reducible first | exact HB.out | apply zA | apply zB | apply zC | refine zD ?_ GE437.out | refine zD ?_ GE445.out) | exact HB.out))); (case aF => exact (fun _ _ => trivial)); (case aO => exact (by (with_reducible repeat (first | apply Kd.R_alloc | apply Kd.R_drewN | apply Kd.R_drew)); exact HO448.out)); (case aS => exact (zN (by repeat (first | (with_reducible first | exact HB.out | apply zA | apply zB | apply zC | refine zD ?_ GE437.out | refine zD ?_ GE445.out) | exact HB.out)))); (case aL => have := LMc14.out; omega); intro v450 w17 ho hb hg hat; rw [← Ny449.out] at ho; have n0_ := zK (blk_grown (g := gb437) (o := .cells #[.string a0_0, .int .i64 a0_1, .int .i64 a0_2, .int .i64 a0_3, .int .i64 a0_4] 67 (0, 0)) (by (with_reducible repeat (first | refine zE ?_ _ | refine zF ?_ | refine zG ?_ _)); exact BK437.out) hg (Kd.R_ne HO448.out BK437.out (by decide))); have n1_ := zK (blk_grown (g := gb445) (o := .cells #[.bool true, .bool t439, .int .i64 t440, .int .i64 t441, .int .i64 t442, .string t443] 96 (0, 0)) (by (with_reducible repeat (first | refine zE ?_ _ | refine zF ?_ | refine zG ?_ _)); exact BK445.out) hg (Kd.R_ne HO448.out BK445.out (by decide))); have n2_ := zK (hb); have n3_ := zK (ho); clear BK437; clear BK445; clear HB; clear HO448; have BK437 := n0_; have BK445 := n1_; have HB := n2_; have HO451 := n3_; clear n0_ n1_ n2_ n3_; clear ho hb hg hat))
    go_meet
    case rel => exact ⟨_, (y449), H', ⟨by first | omega | exact Nat.le_refl _⟩, ⟨by (with_reducible repeat (first | apply Kd.R_alloc | apply Kd.R_drewN | apply Kd.R_drew)); exact HO451.out⟩, ⟨by (with_reducible repeat (first | refine zE ?_ _ | refine zF ?_ | refine zG ?_ _)); exact BK437.out⟩, ⟨by (with_reducible repeat (first | refine zE ?_ _ | refine zF ?_ | refine zG ?_ _)); exact BK445.out⟩, ⟨by repeat (first | (with_reducible first | exact HB.out | apply zA | apply zB | apply zC | refine zD ?_ GE437.out | refine zD ?_ GE445.out) | exact HB.out)⟩⟩
   ·rw [if_neg c14] at H
    exact absurd H (by simp)
  ·replace c13 := Bool.eq_false_iff.mpr c13
   subst c13
   rw [if_neg (show ¬ (false = true) by decide)] at H
   have H' := zK H
   clear H
   go_wp2
   go_meet
   case rel => exact ⟨_, (y446), H', ⟨by first | omega | exact Nat.le_refl _⟩, ⟨by (with_reducible repeat (first | apply Kd.R_alloc | apply Kd.R_drewN | apply Kd.R_drew)); exact HO448.out⟩, ⟨by (with_reducible repeat (first | refine zE ?_ _ | refine zF ?_ | refine zG ?_ _)); exact BK437.out⟩, ⟨by (with_reducible repeat (first | refine zE ?_ _ | refine zF ?_ | refine zG ?_ _)); exact BK445.out⟩, ⟨by repeat (first | (with_reducible first | exact HB.out | apply zA | apply zB | apply zC | refine zD ?_ GE437.out | refine zD ?_ GE445.out) | exact HB.out)⟩⟩
 case rest =>
  clear HC3
  try clear c1
  try clear p2
  try clear c8
  try clear c9
  try clear c13
  try clear c14
  try clear c15
  try clear hcz12_0
  try clear hcz12_1
  try clear hcz12_2
  try clear hcz12_3
  try clear hcz12_4
  try clear hcz12_5
  try clear hcz16_0
  try clear hcz16_1
  try clear hcz16_2
  try clear hcz16_3
  try clear hcz16_4
  try clear hcz5_0
  try clear hcz5_1
  try clear hcz5_2
  try clear hcz5_3
  try clear hcz5_4
  try clear hcz9_0
  try clear hcz9_1
  try clear hcz9_2
  try clear hcz9_3
  try clear hcz9_4
  try clear hcz9_5
  try clear hfz12_0
  try clear hfz12_1
  try clear hfz12_2
  try clear hfz12_3
  try clear hfz12_4
  try clear hfz12_5
  try clear hfz16_0
  try clear hfz16_1
  try clear hfz16_2
  try clear hfz16_3
  try clear hfz16_4
  try clear hfz5_0
  try clear hfz5_1
  try clear hfz5_2
  try clear hfz5_3
  try clear hfz5_4
  try clear hfz9_0
  try clear hfz9_1
  try clear hfz9_2
  try clear hfz9_3
  try clear hfz9_4
  try clear hfz9_5
  obtain ⟨kq, x5_2, HA, HJ2, HO_5, BK437, BK445, HB⟩ := hcut
  cases kq with
  | zero => exact absurd HA.out (by simp [impl_Instr_reads.j0])
  | succ kj2 =>
   have H := HA.out
   clear HA
   simp only [impl_Instr_reads.j0] at H
   by_cases c18 : t439 = true
   ·subst c18
    rw [if_pos rfl] at H
    by_cases c19 : x5_2.length < 17592186044416
    ·rw [if_pos c19] at H
     have LMc19 := zK c19
     clear c19
     obtain ⟨y452, hy452⟩ : ∃ y_ : List Int, y_ = (x5_2 ++ [a0_3]) := ⟨_, rfl⟩
     replace H : ((slices_Sort_int_int.f kj2 y452).bind fun t455 => ((slices_Compact_int_int.f kj2 t455).bind fun t456 => (some t456))) = some r := by first | (rw [hy452]; with_reducible exact H) | (have H2_ := (Option.bind_some _ _).symm.trans H; rw [hy452]; with_reducible exact H2_) | (have H2_ := (Option.bind_some _ _).symm.trans H; with_reducible exact H2_) | with_reducible exact H | (rw [hy452]; exact H) | exact H
     have Ny452 := zK hy452
     clear hy452
     replace H := Option.bind_eq_some_iff.mp H
     obtain ⟨t455, A200, H⟩ := H
     replace H : ((slices_Compact_int_int.f kj2 t455).bind fun t456 => (some t456)) = some r := H
     have A20 := zK A200
     clear A200
     replace H := Option.bind_eq_some_iff.mp H
     obtain ⟨t456, A210, H⟩ := H
     replace H : (some t456) = some r := H
     have A21 := zK A210
     clear A210
     obtain rfl := Option.some.inj H
     have hnb22 := NB445_437.out
     have hnc22 := NB437_445.out
     have hcz23_0 : wc.cell? ⟨gb445, 0, none⟩ = some (.bool t438) := (zI BK445.out 0).trans rfl
     have hcz23_1 : wc.cell? ⟨gb445, 1, none⟩ = some (.bool true) := (zI BK445.out 1).trans rfl
     have hcz23_2 : wc.cell? ⟨gb445, 2, none⟩ = some (.int .i64 t440) := (zI BK445.out 2).trans rfl
     have hcz23_3 : wc.cell? ⟨gb445, 3, none⟩ = some (.int .i64 t441) := (zI BK445.out 3).trans rfl
     have hcz23_4 : wc.cell? ⟨gb445, 4, none⟩ = some (.int .i64 t442) := (zI BK445.out 4).trans rfl
     have hcz23_5 : wc.cell? ⟨gb445, 5, none⟩ = some (.string t443) := (zI BK445.out 5).trans rfl
     have hfz23_0 := zH BK445.out 0
     have hfz23_1 := zH BK445.out 1
     have hfz23_2 := zH BK445.out 2
     have hfz23_3 := zH BK445.out 3
     have hfz23_4 := zH BK445.out 4
     have hfz23_5 := zH BK445.out 5
     have hcz24_0 : wc.cell? ⟨gb437, 0, none⟩ = some (.string a0_0) := (zI BK437.out 0).trans rfl
     have hcz24_1 : wc.cell? ⟨gb437, 1, none⟩ = some (.int .i64 a0_1) := (zI BK437.out 1).trans rfl
     have hcz24_2 : wc.cell? ⟨gb437, 2, none⟩ = some (.int .i64 a0_2) := (zI BK437.out 2).trans rfl
     have hcz24_3 : wc.cell? ⟨gb437, 3, none⟩ = some (.int .i64 a0_3) := (zI BK437.out 3).trans rfl
     have hcz24_4 : wc.cell? ⟨gb437, 4, none⟩ = some (.int .i64 a0_4) := (zI BK437.out 4).trans rfl
     have hfz24_0 := zH BK437.out 0
     have hfz24_1 := zH BK437.out 1
     have hfz24_2 := zH BK437.out 2
     have hfz24_3 := zH BK437.out 3
     have hfz24_4 := zH BK437.out 4
     go_wp2_with (first | ((with_reducible refine gate_builtin (b := .append) (xs := #[.tmp 22, .tmp 25]) rfl ?_); at_builtin; refine Kd.R_append (Kd.int .i64) (w0 := w) w.heap.size rfl (.tmp 22) (.tmp 25) 40 3 (.int .i64 0) 8 rfl Try.underlying40 info3 rfl (by decide) (by omega) u5 x5_2 a0_3 [.int .i64 a0_3] (fun _ => True) (fun _ => False) rfl rfl ?aP (fun _ hk => hk.elim) ?aF ?aO ?aB ?aS ?aL ?_; (case aP => exact rfl); (case aB => exact (by repeat (first | (with_reducible first | exact HB.out | apply zA | apply zB | apply zC | refine zD ?_ GE437.out | refine zD ?_ GE445.out) | exact HB.out))); (case aF => exact (fun _ _ => trivial)); (case aO => exact (by (with_reducible repeat (first | apply Kd.R_alloc | apply Kd.R_drewN | apply Kd.R_drew)); exact HO_5.out)); (case aS => exact (zN (by repeat (first | (with_reducible first | exact HB.out | apply zA | apply zB | apply zC | refine zD ?_ GE437.out | refine zD ?_ GE445.out) | exact HB.out)))); (case aL => have := LMc19.out; omega); intro v453 w25 ho hb hg hat; rw [← Ny452.out] at ho; have n0_ := zK (blk_grown (g := gb437) (o := .cells #[.string a0_0, .int .i64 a0_1, .int .i64 a0_2, .int .i64 a0_3, .int .i64 a0_4] 67 (0, 0)) (by (with_reducible repeat (first | refine zE ?_ _ | refine zF ?_ | refine zG ?_ _)); exact BK437.out) hg (Kd.R_ne HO_5.out BK437.out (by decide))); have n1_ := zK (blk_grown (g := gb445) (o := .cells #[.bool t438, .bool true, .int .i64 t440, .int .i64 t441, .int .i64 t442, .string t443] 96 (0, 0)) (by (with_reducible repeat (first | refine zE ?_ _ | refine zF ?_ | refine zG ?_ _)); exact BK445.out) hg (Kd.R_ne HO_5.out BK445.out (by decide))); have n2_ := zK (hb); have n3_ := zK (ho); clear BK437; clear BK445; clear HB; clear HO_5; have BK437 := n0_; have BK445 := n1_; have HB := n2_; have HO454 := n3_; clear n0_ n1_ n2_ n3_; clear ho hb hg hat; obtain ⟨Ao26, co26, eo26⟩ := Kd.R_slice HO454.out; subst eo26) | ((with_reducible refine gate_callee (f := 93) rfl ?_); refine goesL_ (some 28) rfl rfl Try.func93 (by kernel_rfl) rfl #[.slice Ao26 y452.length co26] rfl (by (try simp only [z6, z7, z8]); first | done | rfl | (simp only [z4, z5]; rfl)) ?_; (with_reducible refine (slices_Sort_int_int.calls kj2 (fun k_ => some k_ = (.slice Ao26 y452.length co26 : Value).ownBlock) (.slice Ao26 y452.length co26) y452 t455 w _ ?side1 ?side2 A20.out).mono ?_); (case side1 => repeat (first | (with_reducible first | exact HB.out | apply zA | apply zB | apply zC | refine zD ?_ GE437.out | refine zD ?_ GE445.out) | exact HB.out)); (case side2 => exact Kd.R_tight rfl HO454.out); rintro e w27 ⟨rfl, hy0, hb, hkp⟩; refine ⟨_, rfl, ?_⟩; have n0_ := zK (blk_kept (by (with_reducible repeat (first | refine zE ?_ _ | refine zF ?_ | refine zG ?_ _)); exact BK437.out) hkp (fun hs_ => (fun e_ => (Kd.R_ne HO454.out BK437.out (by decide)) e_) hs_)); have n1_ := zK (blk_kept (by (with_reducible repeat (first | refine zE ?_ _ | refine zF ?_ | refine zG ?_ _)); exact BK445.out) hkp (fun hs_ => (fun e_ => (Kd.R_ne HO454.out BK445.out (by decide)) e_) hs_)); have n2_ := zK (Kd.R_reok rfl hy0 (fun k_ e_ => HO454.out.1 k_ e_)); have n3_ := zK (hb); clear BK437; clear BK445; clear HO454; clear HB; have BK437 := n0_; have BK445 := n1_; have HO454 := n2_; have HB := n3_; clear n0_ n1_ n2_ n3_; (try clear hb); (try clear hkp); (try clear hy0)) | ((with_reducible refine gate_callee (f := 156) rfl ?_); refine goesL_ (some 30) rfl rfl Try.func156 (by kernel_rfl) rfl #[.slice Ao26 y452.length co26] rfl (by (try simp only [z6, z7, z8]); first | done | rfl | (simp only [z4, z5]; rfl)) ?_; (with_reducible refine (slices_Compact_int_int.calls kj2 (fun k_ => some k_ = (.slice Ao26 y452.length co26 : Value).ownBlock) (.slice Ao26 y452.length co26) t455 t456 w _ ?side1 ?side2 A21.out).mono ?_); (case side1 => repeat (first | (with_reducible first | exact HB.out | apply zA | apply zB | apply zC | refine zD ?_ GE437.out | refine zD ?_ GE445.out) | exact HB.out)); (case side2 => exact Kd.R_tight rfl HO454.out); rintro e w28 ⟨v457, rfl, ho0, hb, hkp⟩; refine ⟨_, rfl, ?_⟩; have n0_ := zK (blk_kept (by (with_reducible repeat (first | refine zE ?_ _ | refine zF ?_ | refine zG ?_ _)); exact BK437.out) hkp (fun hs_ => (fun e_ => (Kd.R_ne HO454.out BK437.out (by decide)) e_) hs_)); have n1_ := zK (blk_kept (by (with_reducible repeat (first | refine zE ?_ _ | refine zF ?_ | refine zG ?_ _)); exact BK445.out) hkp (fun hs_ => (fun e_ => (Kd.R_ne HO454.out BK445.out (by decide)) e_) hs_)); have n2_ := zK (Kd.R_mono (ok' := fun k_ => True) ho0 (fun k_ hk_ => trivial)); have n3_ := zK (hb); clear BK437; clear BK445; clear HB; clear HO454; have BK437 := n0_; have BK445 := n1_; have HO458 := n2_; have HB := n3_; clear n0_ n1_ n2_ n3_; (try clear hb); (try clear hkp); (try clear ho0)))
     go_ret
     exact ⟨_, by first | rfl | (simp [errW_none, errW_some] <;> rfl) | (simp [*, errW_none, errW_some] <;> rfl), by (with_reducible repeat (first | apply Kd.R_alloc | apply Kd.R_drewN | apply Kd.R_drew)); exact HO458.out, by repeat (first | (with_reducible first | exact HB.out | apply zA | apply zB | apply zC | refine zD ?_ GE437.out | refine zD ?_ GE445.out) | exact HB.out)⟩
    ·rw [if_neg c19] at H
     exact absurd H (by simp)
   ·replace c18 := Bool.eq_false_iff.mpr c18
    subst c18
    rw [if_neg (show ¬ (false = true) by decide)] at H
    replace H := Option.bind_eq_some_iff.mp H
    obtain ⟨t459, A290, H⟩ := H
    replace H : ((slices_Compact_int_int.f kj2 t459).bind fun t460 => (some t460)) = some r := H
    have A29 := zK A290
    clear A290
    replace H := Option.bind_eq_some_iff.mp H
    obtain ⟨t460, A300, H⟩ := H
    replace H : (some t460) = some r := H
    have A30 := zK A300
    clear A300
    obtain rfl := Option.some.inj H
    have hnb31 := NB445_437.out
    have hnc31 := NB437_445.out
    have hcz32_0 : wc.cell? ⟨gb445, 0, none⟩ = some (.bool t438) := (zI BK445.out 0).trans rfl
    have hcz32_1 : wc.cell? ⟨gb445, 1, none⟩ = some (.bool false) := (zI BK445.out 1).trans rfl
    have hcz32_2 : wc.cell? ⟨gb445, 2, none⟩ = some (.int .i64 t440) := (zI BK445.out 2).trans rfl
    have hcz32_3 : wc.cell? ⟨gb445, 3, none⟩ = some (.int .i64 t441) := (zI BK445.out 3).trans rfl
    have hcz32_4 : wc.cell? ⟨gb445, 4, none⟩ = some (.int .i64 t442) := (zI BK445.out 4).trans rfl
    have hcz32_5 : wc.cell? ⟨gb445, 5, none⟩ = some (.string t443) := (zI BK445.out 5).trans rfl
    have hfz32_0 := zH BK445.out 0
    have hfz32_1 := zH BK445.out 1
    have hfz32_2 := zH BK445.out 2
    have hfz32_3 := zH BK445.out 3
    have hfz32_4 := zH BK445.out 4
    have hfz32_5 := zH BK445.out 5
    obtain ⟨Ao33, co33, eo33⟩ := Kd.R_slice HO_5.out
    subst eo33
    go_wp2_with (first | ((with_reducible refine gate_callee (f := 93) rfl ?_); refine goesL_ (some 28) rfl rfl Try.func93 (by kernel_rfl) rfl #[.slice Ao33 x5_2.length co33] rfl (by (try simp only [z6, z7, z8]); first | done | rfl | (simp only [z4, z5]; rfl)) ?_; (with_reducible refine (slices_Sort_int_int.calls kj2 (fun k_ => some k_ = (.slice Ao33 x5_2.length co33 : Value).ownBlock) (.slice Ao33 x5_2.length co33) x5_2 t459 w _ ?side1 ?side2 A29.out).mono ?_); (case side1 => repeat (first | (with_reducible first | exact HB.out | apply zA | apply zB | apply zC | refine zD ?_ GE437.out | refine zD ?_ GE445.out) | exact HB.out)); (case side2 => exact Kd.R_tight rfl HO_5.out); rintro e w34 ⟨rfl, hy0, hb, hkp⟩; refine ⟨_, rfl, ?_⟩; have n0_ := zK (Kd.R_reok rfl hy0 (fun k_ e_ => HO_5.out.1 k_ e_)); have n1_ := zK (blk_kept (by (with_reducible repeat (first | refine zE ?_ _ | refine zF ?_ | refine zG ?_ _)); exact BK437.out) hkp (fun hs_ => (fun e_ => (Kd.R_ne HO_5.out BK437.out (by decide)) e_) hs_)); have n2_ := zK (blk_kept (by (with_reducible repeat (first | refine zE ?_ _ | refine zF ?_ | refine zG ?_ _)); exact BK445.out) hkp (fun hs_ => (fun e_ => (Kd.R_ne HO_5.out BK445.out (by decide)) e_) hs_)); have n3_ := zK (hb); clear HO_5; clear BK437; clear BK445; clear HB; have HO_5 := n0_; have BK437 := n1_; have BK445 := n2_; have HB := n3_; clear n0_ n1_ n2_ n3_; (try clear hb); (try clear hkp); (try clear hy0)) | ((with_reducible refine gate_callee (f := 156) rfl ?_); refine goesL_ (some 30) rfl rfl Try.func156 (by kernel_rfl) rfl #[.slice Ao33 x5_2.length co33] rfl (by (try simp only [z6, z7, z8]); first | done | rfl | (simp only [z4, z5]; rfl)) ?_; (with_reducible refine (slices_Compact_int_int.calls kj2 (fun k_ => some k_ = (.slice Ao33 x5_2.length co33 : Value).ownBlock) (.slice Ao33 x5_2.length co33) t459 t460 w _ ?side1 ?side2 A30.out).mono ?_); (case side1 => repeat (first | (with_reducible first | exact HB.out | apply zA | apply zB | apply zC | refine zD ?_ GE437.out | refine zD ?_ GE445.out) | exact HB.out)); (case side2 => exact Kd.R_tight rfl HO_5.out); rintro e w35 ⟨v461, rfl, ho0, hb, hkp⟩; refine ⟨_, rfl, ?_⟩; have n0_ := zK (blk_kept (by (with_reducible repeat (first | refine zE ?_ _ | refine zF ?_ | refine zG ?_ _)); exact BK437.out) hkp (fun hs_ => (fun e_ => (Kd.R_ne HO_5.out BK437.out (by decide)) e_) hs_)); have n1_ := zK (blk_kept (by (with_reducible repeat (first | refine zE ?_ _ | refine zF ?_ | refine zG ?_ _)); exact BK445.out) hkp (fun hs_ => (fun e_ => (Kd.R_ne HO_5.out BK445.out (by decide)) e_) hs_)); have n2_ := zK (Kd.R_mono (ok' := fun k_ => True) ho0 (fun k_ hk_ => trivial)); have n3_ := zK (hb); clear BK437; clear BK445; clear HB; clear HO_5; have BK437 := n0_; have BK445 := n1_; have HO462 := n2_; have HB := n3_; clear n0_ n1_ n2_ n3_; (try clear hb); (try clear hkp); (try clear ho0)))
    go_ret
    exact ⟨_, by first | rfl | (simp [errW_none, errW_some] <;> rfl) | (simp [*, errW_none, errW_some] <;> rfl), by (with_reducible repeat (first | apply Kd.R_alloc | apply Kd.R_drewN | apply Kd.R_drew)); exact HO462.out, by repeat (first | (with_reducible first | exact HB.out | apply zA | apply zB | apply zC | refine zD ?_ GE437.out | refine zD ?_ GE445.out) | exact HB.out)⟩

/-! ### slices_DeleteFunc_int_int_impl_Instr_before_c1: function 153 -/
-- needs: Derived.Test.YtecmlikhmkcdpaaDel
-- needs: Derived.Lib.RowBridge
def slices_DeleteFunc_int_int_impl_Instr_before_c1.f (k : Nat) (l0 : List Int) (a1 : Int) : Option (List Int) := if l0.length ≤ 9223372036854775807 then some (l0.filter fun x => !(x == a1)) else none
theorem slices_DeleteFunc_int_int_impl_Instr_before_c1.mono : ∀ a0 a1 k, LeO (slices_DeleteFunc_int_int_impl_Instr_before_c1.f k a0 a1) (slices_DeleteFunc_int_int_impl_Instr_before_c1.f (k + 1) a0 a1) := fun _ _ _ => LeO.refl _
theorem slices_DeleteFunc_int_int_impl_Instr_before_c1.hand_pred (g0 : Nat) (a1 : Int) (W : World) (x : Int) (hc : W.cell? ⟨g0, 1, none⟩ = some (.int .i64 a1)) : FnGives Try.prog 154 #[.pointer (some ⟨g0, 0, none⟩)] #[.int .i64 x] (.bool (x == a1)) W := by
 show Calls Try.prog 154 #[.int .i64 x, .pointer (some ⟨g0, 0, none⟩)] W _
 go_enter Try.func154, Try.ntmps154
 go_wp2
 go_ret
 exact ⟨rfl, 0, rfl⟩
set_option maxHeartbeats 16000000 in
set_option maxRecDepth 100000 in
theorem slices_DeleteFunc_int_int_impl_Instr_before_c1.hand_nil (w : World) (g0 : Nat) : Calls Try.prog 153 #[.slice none 0 0, .func (.func 154) #[] #[.pointer (some ⟨g0, 0, none⟩)]] w fun e w' => e = .returned (.slice none 0 0) ∧ ∃ q, w' = w.drewN q := by
 go_enter Try.func153, Try.ntmps153
 go_wp2_with (go_at_call 167; refine (Try.slices_IndexFunc_empty_f167 (α := Int) _ _ _ _).mono ?_; rintro e w' ⟨rfl, rfl⟩)
 go_ret
 exact ⟨rfl, 0, rfl⟩
theorem slices_DeleteFunc_int_int_impl_Instr_before_c1.hand_calls (k : Nat) (P0_ : Nat → Prop) (u9000_ : Value) (l0 : List Int) (a1 : Int) (r : List Int) (w0 w : World) (hB : Below w0.heap.size w0 w) (ho0 : Kd.R (Kd.int .i64) 3 w w0.heap.size P0_ u9000_ l0) (g0 : Nat) (s : ByteArray) (y2 y3 y4 : Int) (hg0 : w.heap[g0]? = some (.cells #[.string s, .int .i64 a1, .int .i64 y2, .int .i64 y3, .int .i64 y4] 67 (0, 0))) (h : slices_DeleteFunc_int_int_impl_Instr_before_c1.f k l0 a1 = some r) :
  Calls Try.prog 153 #[u9000_, .func (.func 154) #[] #[.pointer (some ⟨g0, 0, none⟩)]] w fun e w' => ∃ v0_ : Value, e = .returned (v0_) ∧ Kd.R (Kd.int .i64) 3 w' w0.heap.size (fun k_ => (P0_ k_ ∨ w.heap.size ≤ k_)) v0_ r ∧ Below w0.heap.size w0 w' ∧ Kept w w' (fun k_ => P0_ k_) := by
 unfold slices_DeleteFunc_int_int_impl_Instr_before_c1.f at h
 by_cases c2 : l0.length ≤ 9223372036854775807
 ·rw [if_pos c2] at h
  obtain rfl := Option.some.inj h
  have hne := Kd.R_ne ho0 hg0 (by decide)
  have hgl : g0 < w.heap.size := (Array.getElem?_eq_some_iff.1 hg0).1
  have hcell : ∀ W : World, W.heap[g0]? = w.heap[g0]? → W.cell? ⟨g0, 1, none⟩ = some (.int .i64 a1) := fun W hW => by
   rw [World.cell?_of_block (w := w) (a := ⟨g0, 1, none⟩) hW]
   exact (zI hg0 1).trans rfl
  have hp : PredAt Try.prog 154 #[.pointer (some ⟨g0, 0, none⟩)] (Value.int .i64) (fun x => x == a1) w := fun W x hW => slices_DeleteFunc_int_int_impl_Instr_before_c1.hand_pred g0 a1 W x (hcell W (hW.block g0 hgl))
  have hb1 := ho0.2
  obtain ⟨inner, ⟨hlen, hc⟩, hreps⟩ := hb1
  rcases hc with ⟨rfl, h0⟩ | ⟨g, cap, cur, rfl, hb, hh, hnc, hcm, hcs, ht⟩
  ·obtain rfl := List.length_eq_zero_iff.1 h0
   refine (slices_DeleteFunc_int_int_impl_Instr_before_c1.hand_nil w g0).mono ?_
   rintro e w' ⟨rfl, q, rfl⟩
   exact ⟨_, rfl, Kd.R_nil _ _ _ _ _, zB hB q, (Kept.refl _ _).drewN q⟩
  ·have hgg : g0 ≠ g := fun e => hne (by rw [e]; rfl)
   have hpo : PredOver Try.prog 154 #[.pointer (some ⟨g0, 0, none⟩)] (Value.int .i64) (fun x => x == a1) g 0 l0.toArray.size w := fun n os dk x _ => slices_DeleteFunc_int_int_impl_Instr_before_c1.hand_pred g0 a1 _ x (hcell _ (by
    show ((w.heap.modify g (Go.Sort.onCells (Go.Sort.putCells (Value.int .i64) 0 dk))) ++ os)[g0]? = _
    rw [Array.getElem?_append_left (by simpa using hgl), Array.getElem?_modify, if_neg (fun e => hgg e.symm)]))
   refine (Try.slices_DeleteFunc (Value.int .i64) (fun _ => rfl) (fun x => x == a1) 154 #[.pointer (some ⟨g0, 0, none⟩)] (enters_of Try.func154 (by kernel_rfl) rfl) 0 (fun w => Try.zeroValue3 w) g 0 cap l0.toArray w hp hpo (rowput.hand_H ho0 rfl) (by simpa using c2) (by simpa using hnc)).mono ?_
   rintro e w' ⟨rfl, n, rfl⟩
   have hl : (l0.filter fun x => !(x == a1)).length ≤ l0.length := List.length_filter_le _ _
   obtain ⟨h1, h2⟩ := rowput.hand_R (l' := (l0.filter fun x => !(x == a1)) ++ List.replicate (l0.length - (l0.filter fun x => !(x == a1)).length) 0) ho0 rfl n #[] (by simp; omega)
   rw [Go.Sort.grow_empty] at h1 h2
   have h3 := Kd.R_take (m := (l0.filter fun x => !(x == a1)).length) h1 (by simp)
   rw [List.take_left] at h3
   exact ⟨_, rfl, Kd.R_mono h3 (fun k hk => .inl hk), hB.grown h2 hB.size (fun k e => by cases e; exact hb), Kept.of_grown h2 (Kept.refl _ _) (fun k e => by cases e; exact .inl (ho0.1 _ rfl))⟩
 ·rw [if_neg c2] at h
  cases h

/-! ### impl_Instr_before: function 105 -/
def impl_Instr_before.f (k : Nat) (a0_0 : ByteArray) (a0_1 : Int) (a0_2 : Int) (a0_3 : Int) (a0_4 : Int) (l1 : List Int) : Option (List Int) := (slices_Clone_int_int.f l1).bind fun t477 => ((slices_DeleteFunc_int_int_impl_Instr_before_c1.f k t477 a0_1).bind fun t480 => ((impl_Instr_reads.f k a0_0 a0_1 a0_2 a0_3 a0_4).bind fun t483 => (if t480.length + t483.length < 17592186044416 then ((slices_Sort_int_int.f k (t480 ++ t483)).bind fun t489 => ((slices_Compact_int_int.f k t489).bind fun t490 => (some t490))) else (none))))
theorem impl_Instr_before.mono : ∀ a0 a1 a2 a3 a4 a5 k, LeO (impl_Instr_before.f k a0 a1 a2 a3 a4 a5) (impl_Instr_before.f (k + 1) a0 a1 a2 a3 a4 a5) := by
 intro a0 a1 a2 a3 a4 a5 k
 unfold impl_Instr_before.f
 repeat' first
   | (with_reducible exact impl_Instr_reads.mono _ _ _ _ _ _)
   | (with_reducible exact slices_Compact_int_int.mono _ _)
   | (with_reducible exact slices_DeleteFunc_int_int_impl_Instr_before_c1.mono _ _ _)
   | (with_reducible exact slices_Sort_int_int.mono _ _)
   | (with_reducible exact LeO.refl _)
   | (with_reducible exact LeO.none _)
   | (with_reducible refine LeO.ite ?_ ?_)
   | (with_reducible refine LeO.bind ?_ (fun _ => ?_))
   | exact impl_Instr_reads.mono _ _ _ _ _ _
   | exact slices_Compact_int_int.mono _ _
   | exact slices_DeleteFunc_int_int_impl_Instr_before_c1.mono _ _ _
   | exact slices_Sort_int_int.mono _ _
   | exact LeO.none _
   | refine LeO.ite ?_ ?_
   | refine LeO.bind ?_ (fun _ => ?_)
set_option maxHeartbeats 16000000 in
set_option maxRecDepth 100000 in
theorem impl_Instr_before.calls (k : Nat) (a0_0 : ByteArray) (a0_1 : Int) (a0_2 : Int) (a0_3 : Int) (a0_4 : Int) (A1 : Option Addr) (c1 : Nat) (l1 : List Int) (r : List Int) (w : World) (hr1 : Kd.C (Kd.int .i64) w A1 l1.length l1) (hc1 : l1.length ≤ c1) (h : impl_Instr_before.f k a0_0 a0_1 a0_2 a0_3 a0_4 l1 = some r) :
  Calls Try.prog 105 #[.agg #[.string a0_0, .int .i64 a0_1, .int .i64 a0_2, .int .i64 a0_3, .int .i64 a0_4], .slice A1 l1.length c1] w fun e w' => ∃ v0_ : Value, e = .returned (v0_) ∧ Kd.R (Kd.int .i64) 3 w' w.heap.size (fun _ => True) v0_ r ∧ Below w.heap.size w w' := by
 have hu67 := Try.underlying67
 have HR1 := zK hr1
 have HC1 := zK hc1
 clear hr1 hc1
 have HB := zK (Below.refl w.heap.size w)
 have H : ((slices_Clone_int_int.f l1).bind fun t477 => ((slices_DeleteFunc_int_int_impl_Instr_before_c1.f k t477 a0_1).bind fun t480 => ((impl_Instr_reads.f k a0_0 a0_1 a0_2 a0_3 a0_4).bind fun t483 => (if t480.length + t483.length < 17592186044416 then ((slices_Sort_int_int.f k (t480 ++ t483)).bind fun t489 => ((slices_Compact_int_int.f k t489).bind fun t490 => (some t490))) else (none))))) = some r := h
 clear h
 replace H := Option.bind_eq_some_iff.mp H
 obtain ⟨t477, A30, H⟩ := H
 replace H : ((slices_DeleteFunc_int_int_impl_Instr_before_c1.f k t477 a0_1).bind fun t480 => ((impl_Instr_reads.f k a0_0 a0_1 a0_2 a0_3 a0_4).bind fun t483 => (if t480.length + t483.length < 17592186044416 then ((slices_Sort_int_int.f k (t480 ++ t483)).bind fun t489 => ((slices_Compact_int_int.f k t489).bind fun t490 => (some t490))) else (none)))) = some r := H
 have A3 := zK A30
 clear A30
 replace H := Option.bind_eq_some_iff.mp H
 obtain ⟨t480, A40, H⟩ := H
 replace H : ((impl_Instr_reads.f k a0_0 a0_1 a0_2 a0_3 a0_4).bind fun t483 => (if t480.length + t483.length < 17592186044416 then ((slices_Sort_int_int.f k (t480 ++ t483)).bind fun t489 => ((slices_Compact_int_int.f k t489).bind fun t490 => (some t490))) else (none))) = some r := H
 have A4 := zK A40
 clear A40
 replace H := Option.bind_eq_some_iff.mp H
 obtain ⟨t483, A50, H⟩ := H
 replace H : (if t480.length + t483.length < 17592186044416 then ((slices_Sort_int_int.f k (t480 ++ t483)).bind fun t489 => ((slices_Compact_int_int.f k t489).bind fun t490 => (some t490))) else (none)) = some r := H
 have A5 := zK A50
 clear A50
 by_cases c6 : t480.length + t483.length < 17592186044416
 ·rw [if_pos c6] at H
  have LMc6 := zK c6
  clear c6
  obtain ⟨y486, hy486⟩ : ∃ y_ : List Int, y_ = (t480 ++ t483) := ⟨_, rfl⟩
  replace H : ((slices_Sort_int_int.f k y486).bind fun t489 => ((slices_Compact_int_int.f k t489).bind fun t490 => (some t490))) = some r := by first | (rw [hy486]; with_reducible exact H) | (have H2_ := (Option.bind_some _ _).symm.trans H; rw [hy486]; with_reducible exact H2_) | (have H2_ := (Option.bind_some _ _).symm.trans H; with_reducible exact H2_) | with_reducible exact H | (rw [hy486]; exact H) | exact H
  have Ny486 := zK hy486
  clear hy486
  replace H := Option.bind_eq_some_iff.mp H
  obtain ⟨t489, A70, H⟩ := H
  replace H : ((slices_Compact_int_int.f k t489).bind fun t490 => (some t490)) = some r := H
  have A7 := zK A70
  clear A70
  replace H := Option.bind_eq_some_iff.mp H
  obtain ⟨t490, A80, H⟩ := H
  replace H : (some t490) = some r := H
  have A8 := zK A80
  clear A80
  obtain rfl := Option.some.inj H
  go_enter Try.func105, Try.ntmps105
  have hmf : ∀ (fn : Fn) (first cap : Array Value) (w : World), (Instr.makeFunc fn first cap).run Try.prog w = .ok (.func fn first cap) w := fun _ _ _ _ => rfl
  go_wp2_with (first | ((with_reducible refine gate_dst (N := 2) rfl ?_); refine box_event ?hg (N := 2) ?hd (cs := #[.string a0_0, .int .i64 a0_1, .int .i64 a0_2, .int .i64 a0_3, .int .i64 a0_4]) (t := 67) ?hr ?_; (case hd => rfl); (case hg => rfl); (case hr => first | (go_simp; done) | (go_simp; rfl)); intro gb476 hg w9 hbox hb; have n0_ := zK (zL (by repeat (first | (with_reducible first | exact HB.out | apply zA | apply zB | apply zC) | exact HB.out)) hb); have n1_ := zK (hbox); have n2_ := zK ((by rw [hg]; exact (zN (by repeat (first | (with_reducible first | exact HB.out | apply zA | apply zB | apply zC) | exact HB.out))) : w.heap.size ≤ gb476)); have n3_ := n2_; clear HB; have HB := n0_; have BK476 := n1_; have GW476 := n2_; have GE476 := n3_; clear n0_ n1_ n2_ n3_; clear hb hbox hg) | ((with_reducible refine gate_callee (f := 79) rfl ?_); refine goesL_ (some 7) rfl rfl Try.func79 (by kernel_rfl) rfl #[.slice A1 l1.length c1] rfl (by (try simp only [z6, z7, z8]); first | done | rfl | (simp only [z4, z5]; rfl)) ?_; (with_reducible refine (slices_Clone_int_int.calls _ _ l1 t477 _ ?side1 ?side2 A3.out).mono ?_); (case side1 => repeat (first | exact (Kd.C_below HR1.out HB.out) | (with_reducible refine Kd.C_alloc ?_ _) | (with_reducible refine Kd.C_drewN ?_ _) | (with_reducible refine Kd.C_drew ?_))); (case side2 => exact HC1.out); rintro e w10 ⟨v478, rfl, ho0, hb⟩; refine ⟨_, rfl, ?_⟩; have n0_ := zK (Kd.R_lower ho0 (zN (by repeat (first | (with_reducible first | exact HB.out | apply zA | apply zB | apply zC | refine zD ?_ GE476.out) | exact HB.out)))); have n1_ := zK (zM (g := gb476) (o := .cells #[.string a0_0, .int .i64 a0_1, .int .i64 a0_2, .int .i64 a0_3, .int .i64 a0_4] 67 (0, 0)) (by (with_reducible repeat (first | refine zE ?_ _ | refine zF ?_ | refine zG ?_ _)); exact BK476.out) hb); have n2_ := zK (zL (by repeat (first | (with_reducible first | exact HB.out | apply zA | apply zB | apply zC | refine zD ?_ GE476.out) | exact HB.out)) hb); clear BK476; clear HB; have HO479 := n0_; have BK476 := n1_; have HB := n2_; clear n0_ n1_ n2_; (try clear hb); (try clear hb2); (try clear hk); (try clear hi); (try clear ho0); have hcz11_0 : w10.cell? ⟨gb476, 0, none⟩ = some (.string a0_0) := (zI BK476.out 0).trans rfl; have hcz11_1 : w10.cell? ⟨gb476, 1, none⟩ = some (.int .i64 a0_1) := (zI BK476.out 1).trans rfl; have hcz11_2 : w10.cell? ⟨gb476, 2, none⟩ = some (.int .i64 a0_2) := (zI BK476.out 2).trans rfl; have hcz11_3 : w10.cell? ⟨gb476, 3, none⟩ = some (.int .i64 a0_3) := (zI BK476.out 3).trans rfl; have hcz11_4 : w10.cell? ⟨gb476, 4, none⟩ = some (.int .i64 a0_4) := (zI BK476.out 4).trans rfl; have hfz11_0 := zH BK476.out 0; have hfz11_1 := zH BK476.out 1; have hfz11_2 := zH BK476.out 2; have hfz11_3 := zH BK476.out 3; have hfz11_4 := zH BK476.out 4; obtain ⟨Ao12, co12, eo12⟩ := Kd.R_slice HO479.out; subst eo12) | ((with_reducible refine gate_callee (f := 153) rfl ?_); refine goesL_ (some 9) rfl rfl Try.func153 (by kernel_rfl) rfl #[.slice Ao12 t477.length co12, .func (.func 154) #[] #[.pointer (some ⟨gb476, 0, none⟩)]] rfl (by (try simp only [z6, z7, z8]); first | done | rfl | (simp only [z4, z5]; rfl)) ?_; (with_reducible refine (slices_DeleteFunc_int_int_impl_Instr_before_c1.hand_calls k (fun k_ => some k_ = (.slice Ao12 t477.length co12 : Value).ownBlock) (.slice Ao12 t477.length co12) t477 a0_1 t480 w _ ?side1 ?side2 gb476 _ _ _ _ BK476.out A4.out).mono ?_); (case side1 => repeat (first | (with_reducible first | exact HB.out | apply zA | apply zB | apply zC | refine zD ?_ GE476.out) | exact HB.out)); (case side2 => exact Kd.R_tight rfl HO479.out); rintro e w13 ⟨v481, rfl, ho0, hb, hkp⟩; refine ⟨_, rfl, ?_⟩; have n0_ := zK (blk_kept (by (with_reducible repeat (first | refine zE ?_ _ | refine zF ?_ | refine zG ?_ _)); exact BK476.out) hkp (fun hs_ => (fun e_ => (Kd.R_ne HO479.out BK476.out (by decide)) e_) hs_)); have n1_ := zK (Kd.R_mono (ok' := fun k_ => True) ho0 (fun k_ hk_ => trivial)); have n2_ := zK (hb); clear BK476; clear HB; clear HO479; have BK476 := n0_; have HO482 := n1_; have HB := n2_; clear n0_ n1_ n2_; (try clear hb); (try clear hkp); (try clear ho0); have hcz14_0 : w13.cell? ⟨gb476, 0, none⟩ = some (.string a0_0) := (zI BK476.out 0).trans rfl; have hcz14_1 : w13.cell? ⟨gb476, 1, none⟩ = some (.int .i64 a0_1) := (zI BK476.out 1).trans rfl; have hcz14_2 : w13.cell? ⟨gb476, 2, none⟩ = some (.int .i64 a0_2) := (zI BK476.out 2).trans rfl; have hcz14_3 : w13.cell? ⟨gb476, 3, none⟩ = some (.int .i64 a0_3) := (zI BK476.out 3).trans rfl; have hcz14_4 : w13.cell? ⟨gb476, 4, none⟩ = some (.int .i64 a0_4) := (zI BK476.out 4).trans rfl; have hfz14_0 := zH BK476.out 0; have hfz14_1 := zH BK476.out 1; have hfz14_2 := zH BK476.out 2; have hfz14_3 := zH BK476.out 3; have hfz14_4 := zH BK476.out 4) | ((with_reducible refine gate_callee (f := 155) rfl ?_); refine goesL_ (some 12) rfl rfl Try.func155 (by kernel_rfl) rfl #[.agg #[.string a0_0, .int .i64 a0_1, .int .i64 a0_2, .int .i64 a0_3, .int .i64 a0_4]] rfl (by (try simp only [z6, z7, z8]); first | done | rfl | (simp only [z4, z5]; rfl)) ?_; (with_reducible refine (impl_Instr_reads.calls k a0_0 a0_1 a0_2 a0_3 a0_4 t483 _ A5.out).mono ?_); rintro e w15 ⟨v484, rfl, ho0, hb⟩; refine ⟨_, rfl, ?_⟩; have n0_ := zK (Kd.R_elder' (by (with_reducible repeat (first | apply Kd.R_alloc | apply Kd.R_drewN | apply Kd.R_drew)); exact HO482.out) (Kd.R_base ho0) hb); have n1_ := zK (Kd.R_lower (Kd.R_new' ho0 (Kd.R_lt (by (with_reducible repeat (first | apply Kd.R_alloc | apply Kd.R_drewN | apply Kd.R_drew)); exact HO482.out))) (zN (by repeat (first | (with_reducible first | exact HB.out | apply zA | apply zB | apply zC | refine zD ?_ GE476.out) | exact HB.out)))); have n2_ := zK (zM (g := gb476) (o := .cells #[.string a0_0, .int .i64 a0_1, .int .i64 a0_2, .int .i64 a0_3, .int .i64 a0_4] 67 (0, 0)) (by (with_reducible repeat (first | refine zE ?_ _ | refine zF ?_ | refine zG ?_ _)); exact BK476.out) hb); have n3_ := zK (zL (by repeat (first | (with_reducible first | exact HB.out | apply zA | apply zB | apply zC | refine zD ?_ GE476.out) | exact HB.out)) hb); clear HO482; clear BK476; clear HB; have HO482 := n0_; have HO485 := n1_; have BK476 := n2_; have HB := n3_; clear n0_ n1_ n2_ n3_; (try clear hb); (try clear hb2); (try clear hk); (try clear hi); (try clear ho0); obtain ⟨Ao17, co17, eo17⟩ := Kd.R_slice HO485.out; subst eo17) | ((with_reducible refine gate_builtin (b := .append) (xs := #[.tmp 10, .tmp 12]) rfl ?_); at_builtin; refine Kd.R_append_rows (Kd.int .i64) (w0 := w) w.heap.size rfl (.tmp 10) (.tmp 12) 40 3 (.int .i64 0) 8 rfl Try.underlying40 info3 rfl (by decide) (by omega) v481 t480 t483 _ _ _ (fun k_ => some k_ ≠ (.slice Ao17 t483.length co17 : Value).ownBlock) (fun _ => False) rfl rfl ?aO ?aR (fun _ _ h => h) (fun _ h => h.elim) ?aF ?aB ?aS ?aL ?_; (case aR => repeat (first | exact (Kd.R_reads' HO485.out).2.2 | (with_reducible refine Kd.C_alloc ?_ _) | (with_reducible refine Kd.C_drewN ?_ _) | (with_reducible refine Kd.C_drew ?_))); (case aB => exact (by repeat (first | (with_reducible first | exact HB.out | apply zA | apply zB | apply zC | refine zD ?_ GE476.out) | exact HB.out))); (case aF => exact (fun k_ hk => Kd.fresh' (Kd.R_lt (by (with_reducible repeat (first | apply Kd.R_alloc | apply Kd.R_drewN | apply Kd.R_drew)); exact HO485.out)) k_ hk)); (case aO => exact (by (with_reducible repeat (first | apply Kd.R_alloc | apply Kd.R_drewN | apply Kd.R_drew)); exact Kd.R_mono HO482.out (fun _ hk => hk.2))); (case aS => exact (zN (by repeat (first | (with_reducible first | exact HB.out | apply zA | apply zB | apply zC | refine zD ?_ GE476.out) | exact HB.out)))); (case aL => have := LMc6.out; omega); intro v487 w16 ho hb hg hat; rw [← Ny486.out] at ho; have n0_ := zK (blk_grown (g := gb476) (o := .cells #[.string a0_0, .int .i64 a0_1, .int .i64 a0_2, .int .i64 a0_3, .int .i64 a0_4] 67 (0, 0)) (by (with_reducible repeat (first | refine zE ?_ _ | refine zF ?_ | refine zG ?_ _)); exact BK476.out) hg (Kd.R_ne HO482.out BK476.out (by decide))); have n1_ := zK (Kd.R_after (ok := (fun _ => True)) (by (with_reducible repeat (first | apply Kd.R_alloc | apply Kd.R_drewN | apply Kd.R_drew)); exact HO485.out) hg hat); have n2_ := zK (hb); have n3_ := zK (ho); clear BK476; clear HO485; clear HB; clear HO482; have BK476 := n0_; have HO485 := n1_; have HB := n2_; have HO488 := n3_; clear n0_ n1_ n2_ n3_; clear ho hb hg hat; obtain ⟨Ao18, co18, eo18⟩ := Kd.R_slice HO488.out; subst eo18) | ((with_reducible refine gate_callee (f := 93) rfl ?_); refine goesL_ (some 15) rfl rfl Try.func93 (by kernel_rfl) rfl #[.slice Ao18 y486.length co18] rfl (by (try simp only [z6, z7, z8]); first | done | rfl | (simp only [z4, z5]; rfl)) ?_; (with_reducible refine (slices_Sort_int_int.calls k (fun k_ => some k_ = (.slice Ao18 y486.length co18 : Value).ownBlock) (.slice Ao18 y486.length co18) y486 t489 w _ ?side1 ?side2 A7.out).mono ?_); (case side1 => repeat (first | (with_reducible first | exact HB.out | apply zA | apply zB | apply zC | refine zD ?_ GE476.out) | exact HB.out)); (case side2 => exact Kd.R_tight rfl HO488.out); rintro e w19 ⟨rfl, hy0, hb, hkp⟩; refine ⟨_, rfl, ?_⟩; have n0_ := zK (blk_kept (by (with_reducible repeat (first | refine zE ?_ _ | refine zF ?_ | refine zG ?_ _)); exact BK476.out) hkp (fun hs_ => (fun e_ => (Kd.R_ne HO488.out BK476.out (by decide)) e_) hs_)); have n1_ := zK (Kd.R_mono (ok' := fun k_ => some k_ ≠ (.slice Ao18 y486.length co18 : Value).ownBlock) (Kd.R_keptB (HO485.out) hkp (fun k_ hk_ hs_ => (hk_.2) hs_)) (fun k_ hk_ => hk_.1.2)); have n2_ := zK (Kd.R_reok rfl hy0 (fun k_ e_ => HO488.out.1 k_ e_)); have n3_ := zK (hb); clear BK476; clear HO485; clear HO488; clear HB; have BK476 := n0_; have HO485 := n1_; have HO488 := n2_; have HB := n3_; clear n0_ n1_ n2_ n3_; (try clear hb); (try clear hkp); (try clear hy0)) | ((with_reducible refine gate_callee (f := 156) rfl ?_); refine goesL_ (some 17) rfl rfl Try.func156 (by kernel_rfl) rfl #[.slice Ao18 y486.length co18] rfl (by (try simp only [z6, z7, z8]); first | done | rfl | (simp only [z4, z5]; rfl)) ?_; (with_reducible refine (slices_Compact_int_int.calls k (fun k_ => some k_ = (.slice Ao18 y486.length co18 : Value).ownBlock) (.slice Ao18 y486.length co18) t489 t490 w _ ?side1 ?side2 A8.out).mono ?_); (case side1 => repeat (first | (with_reducible first | exact HB.out | apply zA | apply zB | apply zC | refine zD ?_ GE476.out) | exact HB.out)); (case side2 => exact Kd.R_tight rfl HO488.out); rintro e w20 ⟨v491, rfl, ho0, hb, hkp⟩; refine ⟨_, rfl, ?_⟩; have n0_ := zK (blk_kept (by (with_reducible repeat (first | refine zE ?_ _ | refine zF ?_ | refine zG ?_ _)); exact BK476.out) hkp (fun hs_ => (fun e_ => (Kd.R_ne HO488.out BK476.out (by decide)) e_) hs_)); have n1_ := zK (Kd.R_mono (ok' := fun k_ => some k_ ≠ (v491 : Value).ownBlock) (Kd.R_keptB (HO485.out) hkp (fun k_ hk_ hs_ => (hk_) hs_)) (fun k_ hk_ => fun e_ => Or.elim (ho0.1 k_ e_.symm) (fun hs_ => hk_.2.1 hs_) (fun hn_ => Nat.not_le.2 hk_.2.2 hn_))); have n2_ := zK (Kd.R_mono (ok' := fun k_ => some k_ ≠ (.slice Ao17 t483.length co17 : Value).ownBlock) ho0 (fun k_ hk_ => Or.elim hk_ (fun hs_ => fun e_ => (((HO485.out).1 k_ e_.symm)) hs_) (fun hn_ => (Kd.fresh' (Kd.R_lt (by (with_reducible repeat (first | apply Kd.R_alloc | apply Kd.R_drewN | apply Kd.R_drew)); exact HO485.out)) k_ hn_)))); have n3_ := zK (hb); clear BK476; clear HO485; clear HB; clear HO488; have BK476 := n0_; have HO485 := n1_; have HO492 := n2_; have HB := n3_; clear n0_ n1_ n2_ n3_; (try clear hb); (try clear hkp); (try clear ho0)))
  go_ret
  exact ⟨_, by first | rfl | (simp [errW_none, errW_some] <;> rfl) | (simp [*, errW_none, errW_some] <;> rfl), by (with_reducible repeat (first | apply Kd.R_alloc | apply Kd.R_drewN | apply Kd.R_drew)); exact Kd.R_mono HO492.out (fun _ hk => trivial), by repeat (first | (with_reducible first | exact HB.out | apply zA | apply zB | apply zC | refine zD ?_ GE476.out) | exact HB.out)⟩
 ·rw [if_neg c6] at H
  exact absurd H (by simp)

end Go.Proofs.Ytecmlikhmkcdpaa.G
